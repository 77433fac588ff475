/-
  PRINTED BY wip/tools/emit.py: what each Go function comes to, as a predicate over the heap (the kernel holds each against the translated program).
-/
import Derived.Test.YtfijchofplkcoaaGm
import Derived.Test.YtfijchofplkcoaaGi
import Derived.Test.YtfijchofplkcoaaSm
set_option linter.unusedVariables false
set_option maxRecDepth 100000
namespace Go.Proofs.Ytfijchofplkcoaa

/-- pantry/walk.Leaves$1$1 -/
def B187 (Y : YY Try.prog) (S : Ent Try.prog) (p0 : Int) (p1 : Int) (p2 : Int) (p3 : Addr) (p4 : Addr) (p5 : Addr) (Q : Bool → H → Prop) (h : H) : Prop :=
  LoopM (σ := Int × Unit) (fun self1 z2 h3 =>
  Br (decide (z2.1 < 512))
  (LetI z2.1 fun n4 =>
  LetI (IntKind.wrap .i64 ((IntKind.wrap .i64 (p2 * 512)) + n4)) fun n5 =>
  Br (p1 == 0)
  (Ld .p h3 (p3.add 0) fun x6 =>
  F183 x6 p0 n4 (fun r7 r8 h9 =>
  Nw h9 (zeroC Try.prog 25) 25 fun a10 h11 =>
  St h11 (a10.add 0) (.int .i64 r7) fun h12 =>
  St h12 (a10.add 1) (.int .i64 r8) fun h13 =>
  Ld (.i .i64) h13 (a10.add 0) fun x14 =>
  Ld (.i .i64) h13 (a10.add 1) fun x15 =>
  F53 x14 x15 (fun r16 h17 =>
  Br (r16 == 2)
  (Ld .f h17 (p4.add 0) fun x18 =>
  Ld (.i .i64) h17 (a10.add 0) fun x19 =>
  Ld (.i .i64) h17 (a10.add 1) fun x20 =>
  CallVY [E183, E53, E184, S] Y.sem x18 [(.int .i64 n5), (.agg #[(.int .i64 x19), (.int .i64 x20)])] h17 (fun r21 h22 =>
  NotV r21 fun b23 =>
  Br (!b23)
  (Q false h22)
  (self1 ((IntKind.wrap .i64 (z2.1 + 1)), ()) h22)))
  (self1 ((IntKind.wrap .i64 (z2.1 + 1)), ()) h17)) h13) h3)
  (Ld .p h3 (p3.add 0) fun x24 =>
  F184 x24 p0 n4 (fun r25 r26 h27 =>
  LetI r25 fun n28 =>
  Br r26
  (Ld .f h27 (p5.add 0) fun x29 =>
  CallVY [E183, E53, E184, S] Y.sem x29 [(.int .i64 n28), (.int .i64 (IntKind.wrap .i64 (p1 - 1))), (.int .i64 n5)] h27 (fun r30 h31 =>
  NotV r30 fun b32 =>
  Br (!b32)
  (Q false h31)
  (self1 ((IntKind.wrap .i64 (z2.1 + 1)), ()) h31)))
  (self1 ((IntKind.wrap .i64 (z2.1 + 1)), ()) h27)) h3))
  (Q true h3)) (0, ()) h
noncomputable def F187 := Seal @B187
theorem F187_eq : @F187 = @B187 := Seal_eq _
noncomputable def E187s (Y : YY Try.prog) (S : Ent Try.prog) : Ent Try.prog := mkEntY tabOk 187 Try.f187 (Try.f187.body.getD .skip) Try.func187 (by kernel_rfl)
  [E183, E53, E184, S] Y.sem Y.ok
  ⟨[], [(2, [(15, .one (.i .i64))])], []⟩
  [.one (.i .i64), .one (.i .i64), .one (.i .i64), .one .a, .one .a, .one .a] (by kernel_rfl)
  (fun x K h => F187 Y S x.1 x.2.1 x.2.2.1 x.2.2.2.1 x.2.2.2.2.1 x.2.2.2.2.2.1 (fun r1 h' => K (.bool r1) h') h)
  (fun x K h => B187 Y S x.1 x.2.1 x.2.2.1 x.2.2.2.1 x.2.2.2.2.1 x.2.2.2.2.2.1 (fun r1 h' => K (.bool r1) h') h)
  (by rw [F187_eq]) (fun x K h => by kernel_rfl)
noncomputable def E187d (Y : YY Try.prog) : Nat → Ent Try.prog
  | 0 => ⟨187, fun _ _ _ => False, ⟨Try.f187, Try.func187, by kernel_rfl, by kernel_rfl⟩, fun _ _ _ h => h.elim⟩
  | d + 1 => E187s Y (E187d Y d)

/-- pantry/walk.Leaves$1 -/
def B186 (Y : YY Try.prog) (p0 : Value) (p1 : Addr) (p2 : Addr) (Q : H → Prop) (h : H) : Prop :=
  Nw h (Value.cells p0) 228 fun a1 h2 =>
  Nw h2 (zeroC Try.prog 229) 229 fun a3 h4 =>
  St h4 (a3.add 0) (.func (.func 187) #[] #[(.pointer (some p1)), (.pointer (some a1)), (.pointer (some a3))]) fun h5 =>
  Ld (.i .i64) h5 (p2.add 0) fun x6 =>
  Br (decide (x6 ≥ 0))
  (Ld (.i .i64) h5 (p2.add 0) fun x7 =>
  Ld .p h5 (p1.add 0) fun x8 =>
  QC [.one (.i .i64)] h5 (fun K' h' => F93 x8 (fun r10 h'' => K' (.int .i64 r10) h'') h') fun x9 =>
  Br (decide (x7 < x9.1))
  (Ld .f h5 (a3.add 0) fun x11 =>
  Ld (.i .i64) h5 (p2.add 0) fun x12 =>
  CallVY [E93, (E187d Y 4)] Y.sem x11 [(.int .i64 x12), (.int .i64 2), (.int .i64 0)] h5 (fun r13 h14 =>
  TakeAll [] h14 fun h15 =>
  Q  h15))
  (TakeAll [] h5 fun h16 =>
  Q  h16))
  (TakeAll [] h5 fun h17 =>
  Q  h17)
noncomputable def F186 := Seal @B186
theorem F186_eq : @F186 = @B186 := Seal_eq _
noncomputable def E186 : EntY Try.prog := mkEntYR tabOk 186 Try.f186 (Try.f186.body.getD .skip) Try.func186 (by kernel_rfl)
  (fun Y => [E93, (E187d Y 4)]) []
  ⟨⟨[], [], [(3, (.q 0 (.q 1 (.q 2 (.q 3 (.q 4 (.qc 5 [.one (.i .i64)] (.q 6 (.q 7 .done)))))))))]⟩, []⟩
  [.one .f, .one .a, .one .a] (by kernel_rfl)
  (fun Y x K h => F186 Y x.1 x.2.1 x.2.2.1 (fun  h' => K (.tuple #[]) h') h)
  (fun Y x K h => B186 Y x.1 x.2.1 x.2.2.1 (fun  h' => K (.tuple #[]) h') h)
  (by rw [F186_eq]) (fun Y x K h => by kernel_rfl)

/-- (*pantry/pmap.Map).All$1 -/
def B200r (Y : YY Try.prog) (p0 : Value) (p1 : Addr) (Q : H → Prop) (h : H) : Prop :=
  Nw h (Value.cells p0) 228 fun a1 h2 =>
  Ld .p h2 (p1.add 0) fun x3 =>
  F188 x3 (fun r4 h5 =>
  Br (!r4)
  (TakeAll [] h5 fun h6 =>
  Q  h6)
  (Ld .p h5 (p1.add 0) fun x7 =>
  NilP x7 fun a8 =>
  Ld .p h5 ((a8.add 0).add 0) fun x9 =>
  Ld .p h5 (p1.add 0) fun x10 =>
  NilP x10 fun a11 =>
  Ld (.i .i64) h5 ((a11.add 3).add 0) fun x12 =>
  F127c x9 x12 (fun r13 r14 h15 =>
  RngR Try.prog [.one (.i .i64), .agg [(.i .i64), (.i .i64)]] (fun l18 r19 x20 E21 h22 =>
  LetI x20.1 fun n27 =>
  Nw h22 (zeroC Try.prog 25) 25 fun a28 h29 =>
  St h29 (a28.add 0) (.int .i64 x20.2.1.1) fun h30 =>
  St h30 (a28.add 1) (.int .i64 x20.2.1.2.1) fun h31 =>
  BegR l18 r19 h31 fun h23 =>
  Ld .f h23 (a1.add 0) fun x32 =>
  Ld (.i .i64) h23 (a28.add 0) fun x33 =>
  Ld (.i .i64) h23 (a28.add 1) fun x34 =>
  CallVY [E188, E127c] Y.sem x32 [(.int .i64 n27), (.agg #[(.int .i64 x33), (.int .i64 x34)])] h23 (fun r35 h36 =>
  NotV r35 fun b37 =>
  Br (!b37)
  (E21 (some .ret) h36)
  (E21 none h36))) (fun Y26 l18 K' h' => F186 Y26 (yV l18) r13 r14 (fun h'' => K' h'') h') h15 fun j24 D16 h17 =>
  JumpP j24
  (TakeAll (D16 :: []) h17 fun h39 =>
  Q  h39)
  (TakeAll (D16 :: []) h17 fun h40 =>
  Q  h40)
  (fun i25 => bif Nat.beq i25 0 then (TakeAll (D16 :: []) h17 fun h38 =>
  Q  h38) else False)) h5)) h2
noncomputable def F200r := Seal @B200r
theorem F200r_eq : @F200r = @B200r := Seal_eq _
noncomputable def E200r : EntY Try.prog := mkEntYR tabOk 200 Try.f200 (Try.f200.body.getD .skip) Try.func200 (by kernel_rfl)
  (fun Y => [E188, E127c]) [E186]
  ⟨⟨[], [], [(2, (.q 0 (.q 1 (.q 2 (.q 3 (.q 4 (.q 5 (.q 6 (.q 7 (.m1 8 .done))))))))))]⟩, [(17, [.one (.i .i64), .agg [(.i .i64), (.i .i64)]])]⟩
  [.one .f, .one .a] (by kernel_rfl)
  (fun Y x K h => F200r Y x.1 x.2.1 (fun  h' => K (.tuple #[]) h') h)
  (fun Y x K h => B200r Y x.1 x.2.1 (fun  h' => K (.tuple #[]) h') h)
  (by rw [F200r_eq]) (fun Y x K h => by kernel_rfl)

/-- pantry/pantrylaw04.WalkLeaves -/
def B32 (p0 : Sl) (p1 : Int) (p2 : Int) (Q : Bool → H → Prop) (h : H) : Prop :=
  Nw h #[(.int .i64 p2)] 3 fun a1 h2 =>
  Nw h2 (zeroC Try.prog 4) 4 fun a3 h4 =>
  Br (decide (((p0.len : Nat) : Int) > 40))
  (F115  (fun r5 h6 =>
  St h6 (a3.add 0) (.bool r5) fun h7 =>
  TakeAll [] h7 fun h8 =>
  Ld .b h8 (a3.add 0) fun x9 =>
  Q x9 h8) h4)
  (F125 p0 (fun r10 h11 =>
  Br r10
  (F115  (fun r12 h13 =>
  St h13 (a3.add 0) (.bool r12) fun h14 =>
  TakeAll [] h14 fun h15 =>
  Ld .b h15 (a3.add 0) fun x16 =>
  Q x16 h15) h11)
  (F116 p0 (fun r17 r18 h19 =>
  F126 r18 p1 (fun r20 h21 =>
  Nw h21 (zeroC Try.prog 159) 159 fun a22 h23 =>
  St h23 (a22.add 0) (.slice r20.a r20.len r20.cap) fun h24 =>
  F127c r17 p1 (fun r25 r26 h27 =>
  Nw h27 (zeroC Try.prog 3) 3 fun a28 h29 =>
  St h29 (a28.add 0) (.int .i64 0) fun h30 =>
  RngR Try.prog [.one (.i .i64), .agg [(.i .i64), (.i .i64)]] (fun l33 r34 x35 E36 h37 =>
  LetI x35.1 fun n42 =>
  Nw h37 (zeroC Try.prog 25) 25 fun a43 h44 =>
  St h44 (a43.add 0) (.int .i64 x35.2.1.1) fun h45 =>
  St h45 (a43.add 1) (.int .i64 x35.2.1.2.1) fun h46 =>
  BegR l33 r34 h46 fun h38 =>
  Ld (.i .i64) h38 (a28.add 0) fun x47 =>
  Ld (.i .i64) h38 (a1.add 0) fun x48 =>
  Br (x47 == x48)
  (F115  (fun r49 h50 =>
  St h50 (a3.add 0) (.bool r49) fun h51 =>
  E36 (some .ret) h51) h38)
  (Ld (.i .i64) h38 (a28.add 0) fun x52 =>
  Ld .s h38 (a22.add 0) fun x53 =>
  Br (decide (x52 ≥ ((x53.len : Nat) : Int)))
  (St h38 (a3.add 0) (.bool false) fun h54 =>
  E36 (some .ret) h54)
  (Ld .s h38 (a22.add 0) fun x55 =>
  Ld (.i .i64) h38 (a28.add 0) fun x56 =>
  IdxS x55.a x55.len x56 fun a57 =>
  Ld (.i .i64) h38 (((a57.add (Int.toNat x56 * 3)).add 0).add 0) fun x58 =>
  Br (x58 != n42)
  (St h38 (a3.add 0) (.bool false) fun h59 =>
  E36 (some .ret) h59)
  (Ld .s h38 (a22.add 0) fun x60 =>
  Ld (.i .i64) h38 (a28.add 0) fun x61 =>
  IdxS x60.a x60.len x61 fun a62 =>
  Ld (.i .i64) h38 (((a62.add (Int.toNat x61 * 3)).add 1).add 0) fun x63 =>
  Ld (.i .i64) h38 (((a62.add (Int.toNat x61 * 3)).add 1).add 1) fun x64 =>
  Ld (.i .i64) h38 (a43.add 0) fun x65 =>
  Ld (.i .i64) h38 (a43.add 1) fun x66 =>
  Br (!((x63 == x65) && ((x64 == x66) && true)))
  (St h38 (a3.add 0) (.bool false) fun h67 =>
  E36 (some .ret) h67)
  (Ld (.i .i64) h38 (a28.add 0) fun x68 =>
  St h38 (a28.add 0) (.int .i64 (IntKind.wrap .i64 (x68 + 1))) fun h69 =>
  E36 none h69))))) (fun Y41 l33 K' h' => F186 Y41 (yV l33) r25 r26 (fun h'' => K' h'') h') h30 fun j39 D31 h32 =>
  JumpP j39
  (Ld (.i .i64) h32 (a28.add 0) fun x80 =>
  Ld .s h32 (a22.add 0) fun x81 =>
  Br (x80 == ((x81.len : Nat) : Int))
  (F115  (fun r82 h83 =>
  St h83 (a3.add 0) (.bool r82) fun h84 =>
  TakeAll (D31 :: []) h84 fun h85 =>
  Ld .b h85 (a3.add 0) fun x86 =>
  Q x86 h85) h32)
  (St h32 (a3.add 0) (.bool false) fun h87 =>
  TakeAll (D31 :: []) h87 fun h88 =>
  Ld .b h88 (a3.add 0) fun x89 =>
  Q x89 h88))
  (TakeAll (D31 :: []) h32 fun h90 =>
  Ld .b h90 (a3.add 0) fun x91 =>
  Q x91 h90)
  (fun i40 => bif Nat.beq i40 0 then (Ld (.i .i64) h32 (a28.add 0) fun x70 =>
  Ld .s h32 (a22.add 0) fun x71 =>
  Br (x70 == ((x71.len : Nat) : Int))
  (F115  (fun r72 h73 =>
  St h73 (a3.add 0) (.bool r72) fun h74 =>
  TakeAll (D31 :: []) h74 fun h75 =>
  Ld .b h75 (a3.add 0) fun x76 =>
  Q x76 h75) h32)
  (St h32 (a3.add 0) (.bool false) fun h77 =>
  TakeAll (D31 :: []) h77 fun h78 =>
  Ld .b h78 (a3.add 0) fun x79 =>
  Q x79 h78)) else False)) h24) h19) h11)) h4)
noncomputable def F32 := Seal @B32
theorem F32_eq : @F32 = @B32 := Seal_eq _
noncomputable def E32 : Ent Try.prog := mkEntR tabOk 32 Try.f32 (Try.f32.body.getD .skip) Try.func32 (by kernel_rfl)
  [E115, E125, E116, E126, E127c] [E186]
  ⟨⟨[], [], [(14, (.q 0 (.q 1 (.q 2 (.q 3 (.q 4 (.q 5 (.q 6 (.q 7 (.q 8 (.q 9 (.q 10 (.q 11 (.q 12 (.q 13 (.q 14 (.q 15 (.q 16 (.q 17 (.q 18 (.q 19 (.q 20 (.q 21 .done)))))))))))))))))))))))]⟩, [(36, [.one (.i .i64), .agg [(.i .i64), (.i .i64)]])]⟩
  [.one .s, .one (.i .i64), .one (.i .i64)] (by kernel_rfl)
  (fun x K h => F32 x.1 x.2.1 x.2.2.1 (fun r1 h' => K (.bool r1) h') h)
  (fun x K h => B32 x.1 x.2.1 x.2.2.1 (fun r1 h' => K (.bool r1) h') h)
  (by rw [F32_eq]) (fun x K h => by kernel_rfl)

/-- pantry/pantrylaw07.PmapTells -/
def B38 (p0 : Sl) (p1 : Sl) (p2 : Int) (Q : Bool → H → Prop) (h : H) : Prop :=
  Nw h #[(.int .i64 p2)] 3 fun a1 h2 =>
  Nw h2 (zeroC Try.prog 4) 4 fun a3 h4 =>
  Br (decide (((p0.len : Nat) : Int) > 30))
  (F129  (fun r5 h6 =>
  St h6 (a3.add 0) (.bool r5) fun h7 =>
  TakeAll [] h7 fun h8 =>
  Ld .b h8 (a3.add 0) fun x9 =>
  Q x9 h8) h4)
  (Br (decide (((p1.len : Nat) : Int) > 30))
  (F129  (fun r10 h11 =>
  St h11 (a3.add 0) (.bool r10) fun h12 =>
  TakeAll [] h12 fun h13 =>
  Ld .b h13 (a3.add 0) fun x14 =>
  Q x14 h13) h4)
  (F61 128 (fun r15 h16 =>
  F75 128 0 (fun r17 h18 =>
  F128 r15 r17 3 (fun r19 r20 h21 =>
  LetI r20 fun n22 =>
  Br (n22 != 0)
  (St h21 (a3.add 0) (.bool false) fun h23 =>
  TakeAll [] h23 fun h24 =>
  Ld .b h24 (a3.add 0) fun x25 =>
  Q x25 h24)
  (Nw h21 (zeroC Try.prog 42) 42 fun a26 h27 =>
  LoopM (σ := Int × Unit) (fun self28 z29 h30 =>
  Br (decide (z29.1 < ((p0.len : Nat) : Int)))
  (IdxS p0.a p0.len z29.1 fun a31 =>
  Ld (.i .u64) h30 ((a31.add (Int.toNat z29.1 * 1)).add 0) fun x32 =>
  LetI x32 fun n33 =>
  Asr ((5 : Int) ≠ 0)
  (Asr ((67108864 : Int) ≠ 0)
  (LetI (IntKind.wrap .i64 (Int.tmod (IntKind.wrap .u64 ((Int.tmod n33 5) * 262144)) 67108864)) fun n34 =>
  Asr ((5 : Int) ≠ 0)
  (Asr ((7 : Int) ≠ 0)
  (LetI (IntKind.wrap .i64 (n34 + (IntKind.wrap .i64 (Int.tmod (IntKind.wrap .u64 (Int.tdiv n33 5)) 7)))) fun n35 =>
  Asr ((128 : Int) ≠ 0)
  (Asr ((7 : Int) ≠ 0)
  (F130 r19 n35 (IntKind.wrap .i64 (Int.tmod n33 128)) (IntKind.wrap .i64 (1 + (IntKind.wrap .i64 (Int.tmod n33 7)))) (fun r36 h37 =>
  Br (r36 != 0)
  (St h37 (a3.add 0) (.bool false) fun h38 =>
  TakeAll [] h38 fun h39 =>
  Ld .b h39 (a3.add 0) fun x40 =>
  Q x40 h39)
  (Ld .s h37 (a26.add 0) fun x41 =>
  F133 x41 n35 (fun r42 h43 =>
  St h43 (a26.add 0) (.slice r42.a r42.len r42.cap) fun h44 =>
  self28 ((IntKind.wrap .i64 (z29.1 + 1)), ()) h44) h37)) h30)))))))
  (LoopM (σ := Int × Unit) (fun self45 z46 h47 =>
  Br (decide (z46.1 < ((p1.len : Nat) : Int)))
  (IdxS p1.a p1.len z46.1 fun a48 =>
  Ld (.i .u64) h47 ((a48.add (Int.toNat z46.1 * 1)).add 0) fun x49 =>
  LetI x49 fun n50 =>
  Ld .s h47 (a26.add 0) fun x51 =>
  Br (((x51.len : Nat) : Int) == 0)
  (F149c r19 (fun r52 h53 =>
  Nw h53 (zeroC Try.prog 3) 3 fun a54 h55 =>
  St h55 (a54.add 0) (.int .i64 0) fun h56 =>
  RngR Try.prog [.one (.i .i64), .agg [(.i .i64), (.i .i64)]] (fun l59 r60 x61 E62 h63 =>
  LetI x61.1 fun n68 =>
  BegR l59 r60 h63 fun h64 =>
  Ld (.i .i64) h64 (a54.add 0) fun x69 =>
  Ld (.i .i64) h64 (a1.add 0) fun x70 =>
  Br (x69 == x70)
  (E62 (some (.exit 4)) h64)
  (Ld (.i .i64) h64 (a54.add 0) fun x71 =>
  Ld .s h64 (a26.add 0) fun x72 =>
  Br (decide (x71 ≥ ((x72.len : Nat) : Int)))
  (St h64 (a3.add 0) (.bool false) fun h73 =>
  E62 (some .ret) h73)
  (Ld .s h64 (a26.add 0) fun x74 =>
  Ld (.i .i64) h64 (a54.add 0) fun x75 =>
  IdxS x74.a x74.len x75 fun a76 =>
  Ld (.i .i64) h64 ((a76.add (Int.toNat x75 * 1)).add 0) fun x77 =>
  Br (x77 != n68)
  (St h64 (a3.add 0) (.bool false) fun h78 =>
  E62 (some .ret) h78)
  (Ld (.i .i64) h64 (a54.add 0) fun x79 =>
  St h64 (a54.add 0) (.int .i64 (IntKind.wrap .i64 (x79 + 1))) fun h80 =>
  E62 none h80)))) (fun Y67 l59 K' h' => F200r Y67 (yV l59) r52 (fun h'' => K' h'') h') h56 fun j65 D57 h58 =>
  JumpP j65
  (Ld (.i .i64) h58 (a1.add 0) fun x143 =>
  Br (decide (x143 < 0))
  (Ld (.i .i64) h58 (a54.add 0) fun x144 =>
  Ld .s h58 (a26.add 0) fun x145 =>
  Br (x144 != ((x145.len : Nat) : Int))
  (St h58 (a3.add 0) (.bool false) fun h146 =>
  TakeAll (D57 :: []) h146 fun h147 =>
  Ld .b h147 (a3.add 0) fun x148 =>
  Q x148 h147)
  (F132 r19 (fun r149 h150 =>
  LetI r149 fun n151 =>
  F98 r17 (fun r152 h153 =>
  Br (n151 == (IntKind.wrap .i64 (128 - r152)))
  (F139 r19 (fun r154 h155 =>
  Br (r154 == n151)
  (F98 r17 (fun r156 h157 =>
  Br (r156 == 128)
  (F136 r19 (fun r158 h159 =>
  Br (r158 == (-1))
  (F129  (fun r160 h161 =>
  St h161 (a3.add 0) (.bool r160) fun h162 =>
  TakeAll (D57 :: []) h162 fun h163 =>
  Ld .b h163 (a3.add 0) fun x164 =>
  Q x164 h163) h159)
  (St h159 (a3.add 0) (.bool false) fun h165 =>
  TakeAll (D57 :: []) h165 fun h166 =>
  Ld .b h166 (a3.add 0) fun x167 =>
  Q x167 h166)) h157)
  (St h157 (a3.add 0) (.bool false) fun h168 =>
  TakeAll (D57 :: []) h168 fun h169 =>
  Ld .b h169 (a3.add 0) fun x170 =>
  Q x170 h169)) h155)
  (St h155 (a3.add 0) (.bool false) fun h171 =>
  TakeAll (D57 :: []) h171 fun h172 =>
  Ld .b h172 (a3.add 0) fun x173 =>
  Q x173 h172)) h153)
  (St h153 (a3.add 0) (.bool false) fun h174 =>
  TakeAll (D57 :: []) h174 fun h175 =>
  Ld .b h175 (a3.add 0) fun x176 =>
  Q x176 h175)) h150) h58))
  (F132 r19 (fun r177 h178 =>
  LetI r177 fun n179 =>
  F98 r17 (fun r180 h181 =>
  Br (n179 == (IntKind.wrap .i64 (128 - r180)))
  (F139 r19 (fun r182 h183 =>
  Br (r182 == n179)
  (F98 r17 (fun r184 h185 =>
  Br (r184 == 128)
  (F136 r19 (fun r186 h187 =>
  Br (r186 == (-1))
  (F129  (fun r188 h189 =>
  St h189 (a3.add 0) (.bool r188) fun h190 =>
  TakeAll (D57 :: []) h190 fun h191 =>
  Ld .b h191 (a3.add 0) fun x192 =>
  Q x192 h191) h187)
  (St h187 (a3.add 0) (.bool false) fun h193 =>
  TakeAll (D57 :: []) h193 fun h194 =>
  Ld .b h194 (a3.add 0) fun x195 =>
  Q x195 h194)) h185)
  (St h185 (a3.add 0) (.bool false) fun h196 =>
  TakeAll (D57 :: []) h196 fun h197 =>
  Ld .b h197 (a3.add 0) fun x198 =>
  Q x198 h197)) h183)
  (St h183 (a3.add 0) (.bool false) fun h199 =>
  TakeAll (D57 :: []) h199 fun h200 =>
  Ld .b h200 (a3.add 0) fun x201 =>
  Q x201 h200)) h181)
  (St h181 (a3.add 0) (.bool false) fun h202 =>
  TakeAll (D57 :: []) h202 fun h203 =>
  Ld .b h203 (a3.add 0) fun x204 =>
  Q x204 h203)) h178) h58))
  (TakeAll (D57 :: []) h58 fun h205 =>
  Ld .b h205 (a3.add 0) fun x206 =>
  Q x206 h205)
  (fun i66 => bif Nat.beq i66 4 then (Ld (.i .i64) h58 (a1.add 0) fun x81 =>
  Br (decide (x81 < 0))
  (Ld (.i .i64) h58 (a54.add 0) fun x82 =>
  Ld .s h58 (a26.add 0) fun x83 =>
  Br (x82 != ((x83.len : Nat) : Int))
  (St h58 (a3.add 0) (.bool false) fun h84 =>
  TakeAll (D57 :: []) h84 fun h85 =>
  Ld .b h85 (a3.add 0) fun x86 =>
  Q x86 h85)
  (F132 r19 (fun r87 h88 =>
  LetI r87 fun n89 =>
  F98 r17 (fun r90 h91 =>
  Br (n89 == (IntKind.wrap .i64 (128 - r90)))
  (F139 r19 (fun r92 h93 =>
  Br (r92 == n89)
  (F98 r17 (fun r94 h95 =>
  Br (r94 == 128)
  (F136 r19 (fun r96 h97 =>
  Br (r96 == (-1))
  (F129  (fun r98 h99 =>
  St h99 (a3.add 0) (.bool r98) fun h100 =>
  TakeAll (D57 :: []) h100 fun h101 =>
  Ld .b h101 (a3.add 0) fun x102 =>
  Q x102 h101) h97)
  (St h97 (a3.add 0) (.bool false) fun h103 =>
  TakeAll (D57 :: []) h103 fun h104 =>
  Ld .b h104 (a3.add 0) fun x105 =>
  Q x105 h104)) h95)
  (St h95 (a3.add 0) (.bool false) fun h106 =>
  TakeAll (D57 :: []) h106 fun h107 =>
  Ld .b h107 (a3.add 0) fun x108 =>
  Q x108 h107)) h93)
  (St h93 (a3.add 0) (.bool false) fun h109 =>
  TakeAll (D57 :: []) h109 fun h110 =>
  Ld .b h110 (a3.add 0) fun x111 =>
  Q x111 h110)) h91)
  (St h91 (a3.add 0) (.bool false) fun h112 =>
  TakeAll (D57 :: []) h112 fun h113 =>
  Ld .b h113 (a3.add 0) fun x114 =>
  Q x114 h113)) h88) h58))
  (F132 r19 (fun r115 h116 =>
  LetI r115 fun n117 =>
  F98 r17 (fun r118 h119 =>
  Br (n117 == (IntKind.wrap .i64 (128 - r118)))
  (F139 r19 (fun r120 h121 =>
  Br (r120 == n117)
  (F98 r17 (fun r122 h123 =>
  Br (r122 == 128)
  (F136 r19 (fun r124 h125 =>
  Br (r124 == (-1))
  (F129  (fun r126 h127 =>
  St h127 (a3.add 0) (.bool r126) fun h128 =>
  TakeAll (D57 :: []) h128 fun h129 =>
  Ld .b h129 (a3.add 0) fun x130 =>
  Q x130 h129) h125)
  (St h125 (a3.add 0) (.bool false) fun h131 =>
  TakeAll (D57 :: []) h131 fun h132 =>
  Ld .b h132 (a3.add 0) fun x133 =>
  Q x133 h132)) h123)
  (St h123 (a3.add 0) (.bool false) fun h134 =>
  TakeAll (D57 :: []) h134 fun h135 =>
  Ld .b h135 (a3.add 0) fun x136 =>
  Q x136 h135)) h121)
  (St h121 (a3.add 0) (.bool false) fun h137 =>
  TakeAll (D57 :: []) h137 fun h138 =>
  Ld .b h138 (a3.add 0) fun x139 =>
  Q x139 h138)) h119)
  (St h119 (a3.add 0) (.bool false) fun h140 =>
  TakeAll (D57 :: []) h140 fun h141 =>
  Ld .b h141 (a3.add 0) fun x142 =>
  Q x142 h141)) h116) h58)) else False)) h47)
  (Ld .s h47 (a26.add 0) fun x207 =>
  Ld .s h47 (a26.add 0) fun x208 =>
  Asr (((IntKind.wrap .u64 ((x208.len : Nat) : Int)) : Int) ≠ 0)
  (IdxS x207.a x207.len (IntKind.wrap .i64 (Int.tmod n50 (IntKind.wrap .u64 ((x208.len : Nat) : Int)))) fun a209 =>
  Ld (.i .i64) h47 ((a209.add (Int.toNat (IntKind.wrap .i64 (Int.tmod n50 (IntKind.wrap .u64 ((x208.len : Nat) : Int)))) * 1)).add 0) fun x210 =>
  LetI x210 fun n211 =>
  JoinM (σ := Unit) (fun J212 =>
  F134 r19 n211 (fun r215 h216 =>
  Br (!r215)
  (St h216 (a3.add 0) (.bool false) fun h217 =>
  TakeAll [] h217 fun h218 =>
  Ld .b h218 (a3.add 0) fun x219 =>
  Q x219 h218)
  (F134 r19 n211 (fun r220 h221 =>
  Br r220
  (St h221 (a3.add 0) (.bool false) fun h222 =>
  TakeAll [] h222 fun h223 =>
  Ld .b h223 (a3.add 0) fun x224 =>
  Q x224 h223)
  (J212 (()) h221)) h216)) h47)
  (fun y213 h214 =>
  Ld .s h214 (a26.add 0) fun x225 =>
  F148 x225 n211 (fun r226 h227 =>
  St h227 (a26.add 0) (.slice r226.a r226.len r226.cap) fun h228 =>
  self45 ((IntKind.wrap .i64 (z46.1 + 1)), ()) h228) h214))))
  (F149c r19 (fun r229 h230 =>
  Nw h230 (zeroC Try.prog 3) 3 fun a231 h232 =>
  St h232 (a231.add 0) (.int .i64 0) fun h233 =>
  RngR Try.prog [.one (.i .i64), .agg [(.i .i64), (.i .i64)]] (fun l236 r237 x238 E239 h240 =>
  LetI x238.1 fun n245 =>
  BegR l236 r237 h240 fun h241 =>
  Ld (.i .i64) h241 (a231.add 0) fun x246 =>
  Ld (.i .i64) h241 (a1.add 0) fun x247 =>
  Br (x246 == x247)
  (E239 (some (.exit 4)) h241)
  (Ld (.i .i64) h241 (a231.add 0) fun x248 =>
  Ld .s h241 (a26.add 0) fun x249 =>
  Br (decide (x248 ≥ ((x249.len : Nat) : Int)))
  (St h241 (a3.add 0) (.bool false) fun h250 =>
  E239 (some .ret) h250)
  (Ld .s h241 (a26.add 0) fun x251 =>
  Ld (.i .i64) h241 (a231.add 0) fun x252 =>
  IdxS x251.a x251.len x252 fun a253 =>
  Ld (.i .i64) h241 ((a253.add (Int.toNat x252 * 1)).add 0) fun x254 =>
  Br (x254 != n245)
  (St h241 (a3.add 0) (.bool false) fun h255 =>
  E239 (some .ret) h255)
  (Ld (.i .i64) h241 (a231.add 0) fun x256 =>
  St h241 (a231.add 0) (.int .i64 (IntKind.wrap .i64 (x256 + 1))) fun h257 =>
  E239 none h257)))) (fun Y244 l236 K' h' => F200r Y244 (yV l236) r229 (fun h'' => K' h'') h') h233 fun j242 D234 h235 =>
  JumpP j242
  (Ld (.i .i64) h235 (a1.add 0) fun x320 =>
  Br (decide (x320 < 0))
  (Ld (.i .i64) h235 (a231.add 0) fun x321 =>
  Ld .s h235 (a26.add 0) fun x322 =>
  Br (x321 != ((x322.len : Nat) : Int))
  (St h235 (a3.add 0) (.bool false) fun h323 =>
  TakeAll (D234 :: []) h323 fun h324 =>
  Ld .b h324 (a3.add 0) fun x325 =>
  Q x325 h324)
  (F132 r19 (fun r326 h327 =>
  LetI r326 fun n328 =>
  F98 r17 (fun r329 h330 =>
  Br (n328 == (IntKind.wrap .i64 (128 - r329)))
  (F139 r19 (fun r331 h332 =>
  Br (r331 == n328)
  (F98 r17 (fun r333 h334 =>
  Br (r333 == 128)
  (F136 r19 (fun r335 h336 =>
  Br (r335 == (-1))
  (F129  (fun r337 h338 =>
  St h338 (a3.add 0) (.bool r337) fun h339 =>
  TakeAll (D234 :: []) h339 fun h340 =>
  Ld .b h340 (a3.add 0) fun x341 =>
  Q x341 h340) h336)
  (St h336 (a3.add 0) (.bool false) fun h342 =>
  TakeAll (D234 :: []) h342 fun h343 =>
  Ld .b h343 (a3.add 0) fun x344 =>
  Q x344 h343)) h334)
  (St h334 (a3.add 0) (.bool false) fun h345 =>
  TakeAll (D234 :: []) h345 fun h346 =>
  Ld .b h346 (a3.add 0) fun x347 =>
  Q x347 h346)) h332)
  (St h332 (a3.add 0) (.bool false) fun h348 =>
  TakeAll (D234 :: []) h348 fun h349 =>
  Ld .b h349 (a3.add 0) fun x350 =>
  Q x350 h349)) h330)
  (St h330 (a3.add 0) (.bool false) fun h351 =>
  TakeAll (D234 :: []) h351 fun h352 =>
  Ld .b h352 (a3.add 0) fun x353 =>
  Q x353 h352)) h327) h235))
  (F132 r19 (fun r354 h355 =>
  LetI r354 fun n356 =>
  F98 r17 (fun r357 h358 =>
  Br (n356 == (IntKind.wrap .i64 (128 - r357)))
  (F139 r19 (fun r359 h360 =>
  Br (r359 == n356)
  (F98 r17 (fun r361 h362 =>
  Br (r361 == 128)
  (F136 r19 (fun r363 h364 =>
  Br (r363 == (-1))
  (F129  (fun r365 h366 =>
  St h366 (a3.add 0) (.bool r365) fun h367 =>
  TakeAll (D234 :: []) h367 fun h368 =>
  Ld .b h368 (a3.add 0) fun x369 =>
  Q x369 h368) h364)
  (St h364 (a3.add 0) (.bool false) fun h370 =>
  TakeAll (D234 :: []) h370 fun h371 =>
  Ld .b h371 (a3.add 0) fun x372 =>
  Q x372 h371)) h362)
  (St h362 (a3.add 0) (.bool false) fun h373 =>
  TakeAll (D234 :: []) h373 fun h374 =>
  Ld .b h374 (a3.add 0) fun x375 =>
  Q x375 h374)) h360)
  (St h360 (a3.add 0) (.bool false) fun h376 =>
  TakeAll (D234 :: []) h376 fun h377 =>
  Ld .b h377 (a3.add 0) fun x378 =>
  Q x378 h377)) h358)
  (St h358 (a3.add 0) (.bool false) fun h379 =>
  TakeAll (D234 :: []) h379 fun h380 =>
  Ld .b h380 (a3.add 0) fun x381 =>
  Q x381 h380)) h355) h235))
  (TakeAll (D234 :: []) h235 fun h382 =>
  Ld .b h382 (a3.add 0) fun x383 =>
  Q x383 h382)
  (fun i243 => bif Nat.beq i243 4 then (Ld (.i .i64) h235 (a1.add 0) fun x258 =>
  Br (decide (x258 < 0))
  (Ld (.i .i64) h235 (a231.add 0) fun x259 =>
  Ld .s h235 (a26.add 0) fun x260 =>
  Br (x259 != ((x260.len : Nat) : Int))
  (St h235 (a3.add 0) (.bool false) fun h261 =>
  TakeAll (D234 :: []) h261 fun h262 =>
  Ld .b h262 (a3.add 0) fun x263 =>
  Q x263 h262)
  (F132 r19 (fun r264 h265 =>
  LetI r264 fun n266 =>
  F98 r17 (fun r267 h268 =>
  Br (n266 == (IntKind.wrap .i64 (128 - r267)))
  (F139 r19 (fun r269 h270 =>
  Br (r269 == n266)
  (F98 r17 (fun r271 h272 =>
  Br (r271 == 128)
  (F136 r19 (fun r273 h274 =>
  Br (r273 == (-1))
  (F129  (fun r275 h276 =>
  St h276 (a3.add 0) (.bool r275) fun h277 =>
  TakeAll (D234 :: []) h277 fun h278 =>
  Ld .b h278 (a3.add 0) fun x279 =>
  Q x279 h278) h274)
  (St h274 (a3.add 0) (.bool false) fun h280 =>
  TakeAll (D234 :: []) h280 fun h281 =>
  Ld .b h281 (a3.add 0) fun x282 =>
  Q x282 h281)) h272)
  (St h272 (a3.add 0) (.bool false) fun h283 =>
  TakeAll (D234 :: []) h283 fun h284 =>
  Ld .b h284 (a3.add 0) fun x285 =>
  Q x285 h284)) h270)
  (St h270 (a3.add 0) (.bool false) fun h286 =>
  TakeAll (D234 :: []) h286 fun h287 =>
  Ld .b h287 (a3.add 0) fun x288 =>
  Q x288 h287)) h268)
  (St h268 (a3.add 0) (.bool false) fun h289 =>
  TakeAll (D234 :: []) h289 fun h290 =>
  Ld .b h290 (a3.add 0) fun x291 =>
  Q x291 h290)) h265) h235))
  (F132 r19 (fun r292 h293 =>
  LetI r292 fun n294 =>
  F98 r17 (fun r295 h296 =>
  Br (n294 == (IntKind.wrap .i64 (128 - r295)))
  (F139 r19 (fun r297 h298 =>
  Br (r297 == n294)
  (F98 r17 (fun r299 h300 =>
  Br (r299 == 128)
  (F136 r19 (fun r301 h302 =>
  Br (r301 == (-1))
  (F129  (fun r303 h304 =>
  St h304 (a3.add 0) (.bool r303) fun h305 =>
  TakeAll (D234 :: []) h305 fun h306 =>
  Ld .b h306 (a3.add 0) fun x307 =>
  Q x307 h306) h302)
  (St h302 (a3.add 0) (.bool false) fun h308 =>
  TakeAll (D234 :: []) h308 fun h309 =>
  Ld .b h309 (a3.add 0) fun x310 =>
  Q x310 h309)) h300)
  (St h300 (a3.add 0) (.bool false) fun h311 =>
  TakeAll (D234 :: []) h311 fun h312 =>
  Ld .b h312 (a3.add 0) fun x313 =>
  Q x313 h312)) h298)
  (St h298 (a3.add 0) (.bool false) fun h314 =>
  TakeAll (D234 :: []) h314 fun h315 =>
  Ld .b h315 (a3.add 0) fun x316 =>
  Q x316 h315)) h296)
  (St h296 (a3.add 0) (.bool false) fun h317 =>
  TakeAll (D234 :: []) h317 fun h318 =>
  Ld .b h318 (a3.add 0) fun x319 =>
  Q x319 h318)) h293) h235)) else False)) h47)) (0, ()) h30)) (0, ()) h27)) h18) h16) h4))
noncomputable def F38 := Seal @B38
theorem F38_eq : @F38 = @B38 := Seal_eq _
noncomputable def E38 : Ent Try.prog := mkEntR tabOk 38 Try.f38 (Try.f38.body.getD .skip) Try.func38 (by kernel_rfl)
  [E129, E61, E75, E128, E130, E133, E149c, E132, E98, E139, E136, E134, E148] [E200r]
  ⟨⟨[(24, [])], [(9, [(43, .one (.i .i64))]), (18, [(75, .one (.i .i64))])], [(21, (.q 0 (.q 1 (.q 2 (.q 3 (.q 4 (.q 5 (.q 6 (.q 7 (.q 8 (.q 9 .done)))))))))))]⟩, [(109, [.one (.i .i64), .agg [(.i .i64), (.i .i64)]])]⟩
  [.one .s, .one .s, .one (.i .i64)] (by kernel_rfl)
  (fun x K h => F38 x.1 x.2.1 x.2.2.1 (fun r1 h' => K (.bool r1) h') h)
  (fun x K h => B38 x.1 x.2.1 x.2.2.1 (fun r1 h' => K (.bool r1) h') h)
  (by rw [F38_eq]) (fun x K h => by kernel_rfl)

end Go.Proofs.Ytfijchofplkcoaa
