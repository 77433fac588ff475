/-
  PRINTED BY wip/tools/emit.py: what each Go function comes to, as a predicate over the heap (the kernel holds each against the translated program).
-/
import Derived.Test.YtfijchofplkcoaaGh
set_option linter.unusedVariables false
set_option maxRecDepth 100000
namespace Go.Proofs.Ytfijchofplkcoaa

/-- pantry/pantrylaw04.made -/
def B116 (p0 : Sl) (Q : Option Addr → Option Addr → H → Prop) (h : H) : Prop :=
  F61 8 (fun r1 h2 =>
  F88 8 (fun r3 h4 =>
  LoopM (σ := Int × Unit) (fun self5 z6 h7 =>
  Br (decide (z6.1 < ((p0.len : Nat) : Int)))
  (IdxS p0.a p0.len z6.1 fun a8 =>
  Ld (.i .i64) h7 ((a8.add (Int.toNat z6.1 * 4)).add 0) fun x9 =>
  Ld (.i .i64) h7 ((a8.add (Int.toNat z6.1 * 4)).add 1) fun x10 =>
  Ld (.i .i64) h7 ((a8.add (Int.toNat z6.1 * 4)).add 2) fun x11 =>
  Ld (.i .i64) h7 ((a8.add (Int.toNat z6.1 * 4)).add 3) fun x12 =>
  Nw h7 (zeroC Try.prog 134) 134 fun a13 h14 =>
  St h14 (a13.add 0) (.int .i64 x9) fun h15 =>
  St h15 (a13.add 1) (.int .i64 x10) fun h16 =>
  St h16 (a13.add 2) (.int .i64 x11) fun h17 =>
  St h17 (a13.add 3) (.int .i64 x12) fun h18 =>
  Ld (.i .i64) h18 ((a13.add 0).add 0) fun x19 =>
  Ld (.i .i64) h18 ((a13.add 1).add 0) fun x20 =>
  Ld (.i .i64) h18 ((a13.add 2).add 0) fun x21 =>
  Ld (.i .i64) h18 ((a13.add 2).add 1) fun x22 =>
  F51 x21 x22 (fun r23 h24 =>
  (hcell h24 ((a13.add 1).add 0) = some (.int .i64 x20)) ∧
  (hcell h24 ((a13.add 0).add 0) = some (.int .i64 x19)) ∧
  F82 r1 x19 x20 r23 (fun r25 h26 =>
  Ld (.i .i64) h26 ((a13.add 0).add 0) fun x27 =>
  Ld (.i .i64) h26 ((a13.add 1).add 0) fun x28 =>
  Ld (.i .i64) h26 ((a13.add 2).add 0) fun x29 =>
  Ld (.i .i64) h26 ((a13.add 2).add 1) fun x30 =>
  F51 x29 x30 (fun r31 h32 =>
  (hcell h32 ((a13.add 1).add 0) = some (.int .i64 x28)) ∧
  (hcell h32 ((a13.add 0).add 0) = some (.int .i64 x27)) ∧
  F166 r3 x27 x28 r31 (fun r33 h34 =>
  self5 ((IntKind.wrap .i64 (z6.1 + 1)), ()) h34) h32) h26) h24) h18)
  (Q r1 r3 h7)) (0, ()) h4) h2) h
noncomputable def F116 := Seal @B116
theorem F116_eq : @F116 = @B116 := Seal_eq _
noncomputable def E116 : Ent Try.prog := mkEnt tabOk 116 Try.f116 (Try.f116.body.getD .skip) Try.func116 (by kernel_rfl)
  [E61, E88, E51, E82, E166]
  ⟨[], [(3, [(12, .one (.i .i64))])], [(5, (.q 0 (.q 1 (.q 2 (.q 3 (.q 4 (.q 5 (.q 6 (.m1 7 (.m1 8 .done)))))))))), (6, (.q 0 (.q 1 (.q 2 (.q 3 (.q 4 (.q 5 (.q 6 (.m1 7 (.m1 8 .done))))))))))]⟩
  [.one .s] (by kernel_rfl)
  (fun x K h => F116 x.1 (fun r1 r2 h' => K (.tuple #[(.pointer r1), (.pointer r2)]) h') h)
  (fun x K h => B116 x.1 (fun r1 r2 h' => K (.tuple #[(.pointer r1), (.pointer r2)]) h') h)
  (by rw [F116_eq]) (fun x K h => by kernel_rfl)

/-- pantry/pantrylaw04.one -/
def B124 (p0 : Int) (p1 : Int) (p2 : Int) (Q : Sl → H → Prop) (h : H) : Prop :=
  Nw h #[(.int .i64 0), (.int .i64 0), (.int .i64 1), (.int .i64 1), (.int .i64 1), (.int .i64 0), (.int .i64 1), (.int .i64 2), (.int .i64 2), (.int .i64 p0), (.int .i64 p1), (.int .i64 p2)] 134 fun a1 h2 =>
  Q ⟨(some a1), 3, 3⟩ h2
noncomputable def F124 := Seal @B124
theorem F124_eq : @F124 = @B124 := Seal_eq _
noncomputable def E124 : Ent Try.prog := mkEnt tabOk 124 Try.f124 (Try.f124.body.getD .skip) Try.func124 (by kernel_rfl)
  []
  ⟨[], [], []⟩
  [.one (.i .i64), .one (.i .i64), .one (.i .i64)] (by kernel_rfl)
  (fun x K h => F124 x.1 x.2.1 x.2.2.1 (fun r1 h' => K (.slice r1.a r1.len r1.cap) h') h)
  (fun x K h => B124 x.1 x.2.1 x.2.2.1 (fun r1 h' => K (.slice r1.a r1.len r1.cap) h') h)
  (by rw [F124_eq]) (fun x K h => by kernel_rfl)

/-- pantry/pantrylaw04.lives -/
def B115 (Q : Bool → H → Prop) (h : H) : Prop :=
  F116 ⟨none, 0, 0⟩ (fun r1 r2 h3 =>
  F117 r1 0 20480 1 true (fun r4 r5 r6 h7 =>
  LetI r4 fun n8 =>
  LetI r5 fun n9 =>
  LetI r6 fun n10 =>
  F124 5 19 3 (fun r11 h12 =>
  F116 r11 (fun r13 r14 h15 =>
  F117 r13 0 20487 1 true (fun r16 r17 r18 h19 =>
  LetI r16 fun n20 =>
  LetI r17 fun n21 =>
  LetI r18 fun n22 =>
  F117 r13 0 20487 2 true (fun r23 r24 r25 h26 =>
  LetI r23 fun n27 =>
  LetI r24 fun n28 =>
  LetI r25 fun n29 =>
  Br (n8 == 1)
  (Br (n20 == 0)
  (Br (n21 == 3)
  (Br (n22 == 7)
  (Q (n27 == 3) h26)
  (Q false h26))
  (Q false h26))
  (Q false h26))
  (Q false h26)) h19) h15) h12) h7) h3) h
noncomputable def F115 := Seal @B115
theorem F115_eq : @F115 = @B115 := Seal_eq _
noncomputable def E115 : Ent Try.prog := mkEnt tabOk 115 Try.f115 (Try.f115.body.getD .skip) Try.func115 (by kernel_rfl)
  [E116, E117, E124]
  ⟨[], [], []⟩
  [] (by kernel_rfl)
  (fun x K h => F115  (fun r1 h' => K (.bool r1) h') h)
  (fun x K h => B115  (fun r1 h' => K (.bool r1) h') h)
  (by rw [F115_eq]) (fun x K h => by kernel_rfl)

/-- pantry/pantrylaw04.WalkFinds -/
def B28 (p0 : Sl) (p1 : Int) (p2 : Bool) (Q : Bool → H → Prop) (h : H) : Prop :=
  Br (decide (((p0.len : Nat) : Int) > 60))
  (F115  (fun r1 h2 =>
  Q r1 h2) h)
  (Nw h #[(.int .i64 0), (.int .i64 0), (.int .i64 1), (.int .i64 1), (.int .i64 1), (.int .i64 0), (.int .i64 1), (.int .i64 2)] 134 fun a3 h4 =>
  Nw h4 (zeroC Try.prog 136) 136 fun a5 h6 =>
  LoopM (σ := Sl × Int × Unit) (fun self7 z8 h9 =>
  Br (decide (z8.2.1 < ((p0.len : Nat) : Int)))
  (IdxS p0.a p0.len z8.2.1 fun a10 =>
  Ld (.i .u64) h9 ((a10.add (Int.toNat z8.2.1 * 1)).add 0) fun x11 =>
  LetI z8.2.1 fun n12 =>
  LetI x11 fun n13 =>
  Asr ((512 : Int) ≠ 0)
  (Asr ((5 : Int) ≠ 0)
  (IdxA 512 (Int.tmod n13 512)
  (St h9 ((a5.add (Int.toNat (Int.tmod n13 512) * 1)).add 0) (.int .i64 (IntKind.wrap .i64 (1 + (Int.tmod n12 5)))) fun h14 =>
  Asr ((512 : Int) ≠ 0)
  (Asr ((5 : Int) ≠ 0)
  (Nw h14 #[(.int .i64 2), (.int .i64 (IntKind.wrap .i64 (Int.tmod n13 512))), (.int .i64 23), (.int .i64 (IntKind.wrap .i64 (3 + (Int.tmod n12 5))))] 134 fun a15 h16 =>
  App Try.prog ⟨none, 134, 4, 32⟩ h16 z8.1 ⟨(some a15), 1, 1⟩ fun s17 h18 =>
  self7 (s17, (IntKind.wrap .i64 (z8.2.1 + 1)), ()) h18))))))
  (F116 z8.1 (fun r19 r20 h21 =>
  JoinM (σ := Int × Unit) (fun J22 =>
  Br p2
  (J22 (2, ()) h21)
  (J22 (1, ()) h21))
  (fun y23 h24 =>
  Nw h24 #[] 22 fun a25 h26 =>
  App Try.prog ⟨none, 22, 1, 8⟩ h26 ⟨(some a25), 0, 0⟩ p0 fun s27 h28 =>
  Nw h28 #[(.int .u64 p1)] 22 fun a29 h30 =>
  App Try.prog ⟨none, 22, 1, 8⟩ h30 s27 ⟨(some a29), 1, 1⟩ fun s31 h32 =>
  LoopM (σ := Int × Unit) (fun self33 z34 h35 =>
  Br (decide (z34.1 < ((s31.len : Nat) : Int)))
  (IdxS s31.a s31.len z34.1 fun a36 =>
  Ld (.i .u64) h35 ((a36.add (Int.toNat z34.1 * 1)).add 0) fun x37 =>
  LetI x37 fun n38 =>
  Asr ((512 : Int) ≠ 0)
  (LetI (IntKind.wrap .i64 (Int.tmod n38 512)) fun n39 =>
  F117 r19 0 (IntKind.wrap .i64 ((IntKind.wrap .i64 (n39 * 4096)) + 9)) y23.1 true (fun r40 r41 r42 h43 =>
  LetI r40 fun n44 =>
  LetI r41 fun n45 =>
  LetI r42 fun n46 =>
  IdxA 512 n39
  (Ld (.i .i64) h43 ((a5.add (Int.toNat n39 * 1)).add 0) fun x47 =>
  Br (x47 == 0)
  (Br (n44 != 1)
  (Q false h43)
  (self33 ((IntKind.wrap .i64 (z34.1 + 1)), ()) h43))
  (Br (n44 != 0)
  (Q false h43)
  (IdxA 512 n39
  (Ld (.i .i64) h43 ((a5.add (Int.toNat n39 * 1)).add 0) fun x48 =>
  Br (n45 != (IntKind.wrap .i64 (2 + x48)))
  (Q false h43)
  (Br (n46 != 9)
  (Q false h43)
  (self33 ((IntKind.wrap .i64 (z34.1 + 1)), ()) h43))))))) h35))
  (F117 r19 8 0 y23.1 true (fun r49 r50 r51 h52 =>
  LetI r49 fun n53 =>
  LetI r50 fun n54 =>
  LetI r51 fun n55 =>
  F117 r19 0 274877906944 y23.1 true (fun r56 r57 r58 h59 =>
  LetI r56 fun n60 =>
  LetI r57 fun n61 =>
  LetI r58 fun n62 =>
  Br (n53 == 2)
  (Br (n60 == 2)
  (F115  (fun r63 h64 =>
  Q r63 h64) h59)
  (Q false h59))
  (Q false h59)) h52) h35)) (0, ()) h32)) h9)) (⟨(some a3), 2, 2⟩, 0, ()) h6)
noncomputable def F28 := Seal @B28
theorem F28_eq : @F28 = @B28 := Seal_eq _
noncomputable def E28 : Ent Try.prog := mkEnt tabOk 28 Try.f28 (Try.f28.body.getD .skip) Try.func28 (by kernel_rfl)
  [E115, E116, E117]
  ⟨[(15, [(13, .one (.i .i64))])], [(6, [(7, .one .s), (37, .one (.i .i64))]), (16, [(73, .one (.i .i64))])], []⟩
  [.one .s, .one (.i .u64), .one .b] (by kernel_rfl)
  (fun x K h => F28 x.1 x.2.1 x.2.2.1 (fun r1 h' => K (.bool r1) h') h)
  (fun x K h => B28 x.1 x.2.1 x.2.2.1 (fun r1 h' => K (.bool r1) h') h)
  (by rw [F28_eq]) (fun x K h => by kernel_rfl)

/-- pantry/pantrylaw04.same -/
def B119 (p0 : Option Addr) (p1 : Option Addr) (Q : Bool → H → Prop) (h : H) : Prop :=
  NilP p1 fun a1 =>
  Ld .s h ((a1.add 0).add 0) fun x2 =>
  LoopM (σ := Int × Unit) (fun self3 z4 h5 =>
  Br (decide (z4.1 < ((x2.len : Nat) : Int)))
  (LetI z4.1 fun n6 =>
  NilP p1 fun a7 =>
  Ld .s h5 ((a7.add 0).add 0) fun x8 =>
  IdxS x8.a x8.len n6 fun a9 =>
  Ld .s h5 ((a9.add (Int.toNat n6 * 1)).add 0) fun x10 =>
  F64 p0 n6 (fun r11 h12 =>
  (hcell h12 ((a9.add (Int.toNat n6 * 1)).add 0) = some (.slice x10.a x10.len x10.cap)) ∧
  (hcell h12 ((a7.add 0).add 0) = some (.slice x8.a x8.len x8.cap)) ∧
  QC [.one .b] h12 (fun K' h' => F65 r11 x10 (fun r14 h'' => K' (.bool r14) h'') h') fun x13 =>
  Br (!x13.1)
  (Q false h12)
  (self3 ((IntKind.wrap .i64 (z4.1 + 1)), ()) h12)) h5)
  (Q true h5)) (0, ()) h
noncomputable def F119 := Seal @B119
theorem F119_eq : @F119 = @B119 := Seal_eq _
noncomputable def E119 : Ent Try.prog := mkEnt tabOk 119 Try.f119 (Try.f119.body.getD .skip) Try.func119 (by kernel_rfl)
  [E64, E65]
  ⟨[], [(2, [(11, .one (.i .i64))])], [(4, (.q 0 (.q 1 (.q 3 (.q 4 (.q 5 (.q 6 (.q 7 (.q 8 (.q 9 (.m1 2 (.qc 10 [.one .b] (.q 11 .done)))))))))))))]⟩
  [.one .p, .one .p] (by kernel_rfl)
  (fun x K h => F119 x.1 x.2.1 (fun r1 h' => K (.bool r1) h') h)
  (fun x K h => B119 x.1 x.2.1 (fun r1 h' => K (.bool r1) h') h)
  (by rw [F119_eq]) (fun x K h => by kernel_rfl)

/-- pantry/pantrylaw04.WalkWalks -/
def B29 (p0 : Sl) (p1 : Sl) (Q : Bool → H → Prop) (h : H) : Prop :=
  JoinM (σ := Unit) (fun J1 =>
  Br (decide (((p0.len : Nat) : Int) > 60))
  (F115  (fun r4 h5 =>
  Q r4 h5) h)
  (Br (decide (((p1.len : Nat) : Int) > 40))
  (F115  (fun r6 h7 =>
  Q r6 h7) h)
  (J1 (()) h)))
  (fun y2 h3 =>
  F116 p0 (fun r8 r9 h10 =>
  LoopM (σ := Int × Unit) (fun self11 z12 h13 =>
  Br (decide (z12.1 < ((p1.len : Nat) : Int)))
  (IdxS p1.a p1.len z12.1 fun a14 =>
  Ld (.i .i64) h13 ((a14.add (Int.toNat z12.1 * 4)).add 0) fun x15 =>
  Ld (.i .i64) h13 ((a14.add (Int.toNat z12.1 * 4)).add 1) fun x16 =>
  Ld (.i .i64) h13 ((a14.add (Int.toNat z12.1 * 4)).add 2) fun x17 =>
  Ld .b h13 ((a14.add (Int.toNat z12.1 * 4)).add 3) fun x18 =>
  Nw h13 (zeroC Try.prog 144) 144 fun a19 h20 =>
  St h20 (a19.add 0) (.int .i64 x15) fun h21 =>
  St h21 (a19.add 1) (.int .i64 x16) fun h22 =>
  St h22 (a19.add 2) (.int .i64 x17) fun h23 =>
  St h23 (a19.add 3) (.bool x18) fun h24 =>
  Ld (.i .i64) h24 ((a19.add 0).add 0) fun x25 =>
  Ld (.i .i64) h24 ((a19.add 1).add 0) fun x26 =>
  Ld (.i .i64) h24 ((a19.add 2).add 0) fun x27 =>
  Ld .b h24 ((a19.add 3).add 0) fun x28 =>
  F117 r8 x25 x26 x27 x28 (fun r29 r30 r31 h32 =>
  LetI r29 fun n33 =>
  LetI r30 fun n34 =>
  LetI r31 fun n35 =>
  Ld (.i .i64) h32 ((a19.add 0).add 0) fun x36 =>
  Ld (.i .i64) h32 ((a19.add 1).add 0) fun x37 =>
  Ld (.i .i64) h32 ((a19.add 2).add 0) fun x38 =>
  Ld .b h32 ((a19.add 3).add 0) fun x39 =>
  F118 r9 x36 x37 x38 x39 (fun r40 r41 r42 h43 =>
  LetI r40 fun n44 =>
  LetI r41 fun n45 =>
  LetI r42 fun n46 =>
  Br (n33 != n44)
  (Q false h43)
  (Br (n34 != n45)
  (Q false h43)
  (Br (n35 != n46)
  (Q false h43)
  (self11 ((IntKind.wrap .i64 (z12.1 + 1)), ()) h43)))) h32) h24)
  (F119 r8 r9 (fun r47 h48 =>
  Br r47
  (F115  (fun r49 h50 =>
  Q r49 h50) h48)
  (Q false h48)) h13)) (0, ()) h10) h3)
noncomputable def F29 := Seal @B29
theorem F29_eq : @F29 = @B29 := Seal_eq _
noncomputable def E29 : Ent Try.prog := mkEnt tabOk 29 Try.f29 (Try.f29.body.getD .skip) Try.func29 (by kernel_rfl)
  [E115, E116, E117, E118, E119]
  ⟨[(3, [])], [(5, [(31, .one (.i .i64))])], []⟩
  [.one .s, .one .s] (by kernel_rfl)
  (fun x K h => F29 x.1 x.2.1 (fun r1 h' => K (.bool r1) h') h)
  (fun x K h => B29 x.1 x.2.1 (fun r1 h' => K (.bool r1) h') h)
  (by rw [F29_eq]) (fun x K h => by kernel_rfl)

/-- pantry/pantrylaw04.WalkPlaces -/
def B30 (p0 : Sl) (p1 : Int) (p2 : Int) (Q : Bool → H → Prop) (h : H) : Prop :=
  Br (decide (((p0.len : Nat) : Int) > 60))
  (F115  (fun r1 h2 =>
  Q r1 h2) h)
  (F116 p0 (fun r3 r4 h5 =>
  F120 r3 p1 p2 (fun r6 r7 r8 h9 =>
  LetI r6 fun n10 =>
  LetI r7 fun n11 =>
  F121 r4 p1 p2 (fun r12 r13 r14 h15 =>
  LetI r12 fun n16 =>
  LetI r13 fun n17 =>
  F122 r3 p1 p2 (fun r18 r19 r20 h21 =>
  Nw h21 (zeroC Try.prog 25) 25 fun a22 h23 =>
  St h23 (a22.add 0) (.int .i64 r18) fun h24 =>
  St h24 (a22.add 1) (.int .i64 r19) fun h25 =>
  F123 r4 p1 p2 (fun r26 r27 r28 h29 =>
  Nw h29 (zeroC Try.prog 25) 25 fun a30 h31 =>
  St h31 (a30.add 0) (.int .i64 r26) fun h32 =>
  St h32 (a30.add 1) (.int .i64 r27) fun h33 =>
  Br (n10 == n16)
  (Br (n11 == n17)
  (Br (r8 == r14)
  (Ld (.i .i64) h33 (a22.add 0) fun x34 =>
  Ld (.i .i64) h33 (a22.add 1) fun x35 =>
  Ld (.i .i64) h33 (a30.add 0) fun x36 =>
  Ld (.i .i64) h33 (a30.add 1) fun x37 =>
  Br ((x34 == x36) && ((x35 == x37) && true))
  (Br (r20 == r28)
  (F119 r3 r4 (fun r38 h39 =>
  Br r38
  (F115  (fun r40 h41 =>
  Q r40 h41) h39)
  (Q false h39)) h33)
  (Q false h33))
  (Q false h33))
  (Q false h33))
  (Q false h33))
  (Q false h33)) h25) h15) h9) h5) h)
noncomputable def F30 := Seal @B30
theorem F30_eq : @F30 = @B30 := Seal_eq _
noncomputable def E30 : Ent Try.prog := mkEnt tabOk 30 Try.f30 (Try.f30.body.getD .skip) Try.func30 (by kernel_rfl)
  [E115, E116, E120, E121, E122, E123, E119]
  ⟨[], [], []⟩
  [.one .s, .one (.i .i64), .one (.i .i64)] (by kernel_rfl)
  (fun x K h => F30 x.1 x.2.1 x.2.2.1 (fun r1 h' => K (.bool r1) h') h)
  (fun x K h => B30 x.1 x.2.1 x.2.2.1 (fun r1 h' => K (.bool r1) h') h)
  (by rw [F30_eq]) (fun x K h => by kernel_rfl)

/-- pantry/pantrylaw04.WalkWrites -/
def B31 (p0 : Int) (p1 : Int) (p2 : Int) (p3 : Int) (p4 : Int) (p5 : Bool) (Q : Bool → H → Prop) (h : H) : Prop :=
  Nw h #[(.int .i64 p2), (.int .i64 p3), (.int .i64 p4), (.bool p5)] 144 fun a1 h2 =>
  Asr ((512 : Int) ≠ 0)
  (LetI (IntKind.wrap .i64 (Int.tmod p0 512)) fun n3 =>
  Asr ((256 : Int) ≠ 0)
  (F124 n3 (IntKind.wrap .i64 (Int.tmod p1 256)) 3 (fun r4 h5 =>
  F116 r4 (fun r6 r7 h8 =>
  Br (Option.isNone r6)
  (Q false h8)
  (Nw h8 (zeroC Try.prog 156) 156 fun a9 h10 =>
  LoopM (σ := Int × Unit) (fun self11 z12 h13 =>
  Br (decide (z12.1 < 8))
  (LetI z12.1 fun n14 =>
  F64 r6 n14 (fun r15 h16 =>
  IdxA 8 n14
  (St h16 ((a9.add (Int.toNat n14 * 1)).add 0) (.slice r15.a r15.len r15.cap) fun h17 =>
  self11 ((IntKind.wrap .i64 (z12.1 + 1)), ()) h17)) h13)
  (F122 r6 0 n3 (fun r18 r19 r20 h21 =>
  Nw h21 (zeroC Try.prog 25) 25 fun a22 h23 =>
  St h23 (a22.add 0) (.int .i64 r18) fun h24 =>
  St h24 (a22.add 1) (.int .i64 r19) fun h25 =>
  Ld (.i .i64) h25 ((a1.add 2).add 0) fun x26 =>
  Ld .b h25 ((a1.add 3).add 0) fun x27 =>
  F117 r6 0 (IntKind.wrap .i64 ((IntKind.wrap .i64 (n3 * 4096)) + 5)) x26 x27 (fun r28 r29 r30 h31 =>
  LetI r28 fun n32 =>
  LetI r29 fun n33 =>
  LetI r30 fun n34 =>
  F122 r6 0 n3 (fun r35 r36 r37 h38 =>
  Nw h38 (zeroC Try.prog 25) 25 fun a39 h40 =>
  St h40 (a39.add 0) (.int .i64 r35) fun h41 =>
  St h41 (a39.add 1) (.int .i64 r36) fun h42 =>
  JoinM (σ := Unit) (fun J43 =>
  Br (!r20)
  (Q false h42)
  (Br (!r37)
  (Q false h42)
  (Ld (.i .i64) h42 ((a39.add 1).add 0) fun x46 =>
  Ld (.i .i64) h42 ((a22.add 1).add 0) fun x47 =>
  Br (x46 != x47)
  (Q false h42)
  (J43 (()) h42))))
  (fun y44 h45 =>
  Ld (.i .i64) h45 ((a22.add 0).add 0) fun x48 =>
  LetI x48 fun n49 =>
  JoinM (σ := Int × Unit) (fun J50 =>
  Br (n32 == 0)
  (LetI (bOr .i64 n49 64) fun n53 =>
  Ld (.i .i64) h45 ((a1.add 2).add 0) fun x54 =>
  Br (x54 == 2)
  (LetI (bOr .i64 n53 128) fun n55 =>
  J50 (n55, ()) h45)
  (J50 (n53, ()) h45))
  (J50 (n49, ()) h45))
  (fun y51 h52 =>
  JoinM (σ := Unit) (fun J56 =>
  Ld (.i .i64) h52 ((a39.add 0).add 0) fun x59 =>
  Br (x59 != y51.1)
  (Q false h52)
  (Ld (.i .i64) h52 (a22.add 0) fun x60 =>
  Ld (.i .i64) h52 (a22.add 1) fun x61 =>
  Ld (.i .i64) h52 ((a1.add 2).add 0) fun x62 =>
  Ld .b h52 ((a1.add 3).add 0) fun x63 =>
  F55 x60 x61 x62 x63 (fun r64 h65 =>
  Br (!((n32 == 0) == r64))
  (Q false h65)
  (Br (n32 == 0)
  (Br (n33 != 3)
  (Q false h65)
  (Br (n34 != 5)
  (Q false h65)
  (J56 (()) h65)))
  (J56 (()) h65))) h52))
  (fun y57 h58 =>
  Ld (.i .i64) h58 (a22.add 0) fun x66 =>
  Ld (.i .i64) h58 (a22.add 1) fun x67 =>
  F51 x66 x67 (fun r68 h69 =>
  F82 r6 2 n3 r68 (fun r70 h71 =>
  LoopM (σ := Int × Unit) (fun self72 z73 h74 =>
  Br (decide (z73.1 < 8))
  (LetI z73.1 fun n75 =>
  IdxA 8 n75
  (Ld .s h74 ((a9.add (Int.toNat n75 * 1)).add 0) fun x76 =>
  F64 r6 n75 (fun r77 h78 =>
  (hcell h78 ((a9.add (Int.toNat n75 * 1)).add 0) = some (.slice x76.a x76.len x76.cap)) ∧
  QC [.one .b] h78 (fun K' h' => F65 r77 x76 (fun r80 h'' => K' (.bool r80) h'') h') fun x79 =>
  Br (!x79.1)
  (Q false h78)
  (self72 ((IntKind.wrap .i64 (z73.1 + 1)), ()) h78)) h74))
  (F115  (fun r81 h82 =>
  Q r81 h82) h74)) (0, ()) h71) h69) h58)))) h31) h25) h13)) (0, ()) h10)) h5) h2))
noncomputable def F31 := Seal @B31
theorem F31_eq : @F31 = @B31 := Seal_eq _
noncomputable def E31 : Ent Try.prog := mkEnt tabOk 31 Try.f31 (Try.f31.body.getD .skip) Try.func31 (by kernel_rfl)
  [E124, E116, E64, E122, E117, E55, E51, E82, E65, E115]
  ⟨[(16, []), (21, [(19, .one (.i .i64))]), (23, [])], [(7, [(35, .one (.i .i64))]), (25, [(125, .one (.i .i64))])], [(27, (.q 0 (.q 1 (.q 3 (.q 4 (.q 5 (.m1 2 (.qc 6 [.one .b] (.q 7 .done)))))))))]⟩
  [.one (.i .u64), .one (.i .u64), .agg [(.i .i64), (.i .i64), (.i .i64), .b]] (by kernel_rfl)
  (fun x K h => F31 x.1 x.2.1 x.2.2.1.1 x.2.2.1.2.1 x.2.2.1.2.2.1 x.2.2.1.2.2.2.1 (fun r1 h' => K (.bool r1) h') h)
  (fun x K h => B31 x.1 x.2.1 x.2.2.1.1 x.2.2.1.2.1 x.2.2.1.2.2.1 x.2.2.1.2.2.2.1 (fun r1 h' => K (.bool r1) h') h)
  (by rw [F31_eq]) (fun x K h => by kernel_rfl)

/-- pantry/pantrylaw04.loops -/
def B125 (p0 : Sl) (Q : Bool → H → Prop) (h : H) : Prop :=
  LoopM (σ := Int × Int × Unit) (fun self1 z2 h3 =>
  Br (decide (z2.2.1 < ((p0.len : Nat) : Int)))
  (IdxS p0.a p0.len z2.2.1 fun a4 =>
  Ld (.i .i64) h3 ((a4.add (Int.toNat z2.2.1 * 4)).add 0) fun x5 =>
  Ld (.i .i64) h3 ((a4.add (Int.toNat z2.2.1 * 4)).add 1) fun x6 =>
  Ld (.i .i64) h3 ((a4.add (Int.toNat z2.2.1 * 4)).add 2) fun x7 =>
  Ld (.i .i64) h3 ((a4.add (Int.toNat z2.2.1 * 4)).add 3) fun x8 =>
  Nw h3 (zeroC Try.prog 134) 134 fun a9 h10 =>
  St h10 (a9.add 0) (.int .i64 x5) fun h11 =>
  St h11 (a9.add 1) (.int .i64 x6) fun h12 =>
  St h12 (a9.add 2) (.int .i64 x7) fun h13 =>
  St h13 (a9.add 3) (.int .i64 x8) fun h14 =>
  Ld (.i .i64) h14 ((a9.add 2).add 0) fun x15 =>
  Ld (.i .i64) h14 ((a9.add 2).add 1) fun x16 =>
  F54 x15 x16 (fun r17 h18 =>
  Br (r17 == 1)
  (LetI (IntKind.wrap .i64 (z2.1 + 1)) fun n19 =>
  self1 (n19, (IntKind.wrap .i64 (z2.2.1 + 1)), ()) h18)
  (self1 (z2.1, (IntKind.wrap .i64 (z2.2.1 + 1)), ()) h18)) h14)
  (Q (decide (z2.1 > 6)) h3)) (0, 0, ()) h
noncomputable def F125 := Seal @B125
theorem F125_eq : @F125 = @B125 := Seal_eq _
noncomputable def E125 : Ent Try.prog := mkEnt tabOk 125 Try.f125 (Try.f125.body.getD .skip) Try.func125 (by kernel_rfl)
  [E54]
  ⟨[], [(3, [(3, .one (.i .i64)), (8, .one (.i .i64))])], []⟩
  [.one .s] (by kernel_rfl)
  (fun x K h => F125 x.1 (fun r1 h' => K (.bool r1) h') h)
  (fun x K h => B125 x.1 (fun r1 h' => K (.bool r1) h') h)
  (by rw [F125_eq]) (fun x K h => by kernel_rfl)

end Go.Proofs.Ytfijchofplkcoaa
