/-
  PRINTED BY wip/tools/emit.py: what each Go function comes to, as a predicate over the heap (the kernel holds each against the translated program).
-/
import Derived.Test.YtfijchofplkcoaaGk
import Derived.Test.YtfijchofplkcoaaSk
set_option linter.unusedVariables false
set_option maxRecDepth 100000
namespace Go.Proofs.Ytfijchofplkcoaa

/-- (*pantry/pmap.Map).All -/
def B149c (p0 : Option Addr) (Q : Addr → H → Prop) (h : H) : Prop :=
  Nw h #[(.pointer p0)] 167 fun a1 h2 =>
  Q a1 h2
noncomputable def F149c := Seal @B149c
theorem F149c_eq : @F149c = @B149c := Seal_eq _
noncomputable def E149c : Ent Try.prog := mkEnt tabOk 149 Try.f149 (Try.f149.body.getD .skip) Try.func149 (by kernel_rfl)
  []
  ⟨[], [], []⟩
  [.one .p] (by kernel_rfl)
  (fun x K h => F149c x.1 (fun r1 h' => K (.func (.func 200) #[] #[(.pointer (some r1))]) h') h)
  (fun x K h => B149c x.1 (fun r1 h' => K (.func (.func 200) #[] #[(.pointer (some r1))]) h') h)
  (by rw [F149c_eq]) (fun x K h => by kernel_rfl)

/-- pantry/walk.Leaves -/
def B127c (p0 : Option Addr) (p1 : Int) (Q : Addr → Addr → H → Prop) (h : H) : Prop :=
  Nw h #[(.pointer p0)] 45 fun a1 h2 =>
  Nw h2 #[(.int .i64 p1)] 3 fun a3 h4 =>
  Q a1 a3 h4
noncomputable def F127c := Seal @B127c
theorem F127c_eq : @F127c = @B127c := Seal_eq _
noncomputable def E127c : Ent Try.prog := mkEnt tabOk 127 Try.f127 (Try.f127.body.getD .skip) Try.func127 (by kernel_rfl)
  []
  ⟨[], [], []⟩
  [.one .p, .one (.i .i64)] (by kernel_rfl)
  (fun x K h => F127c x.1 x.2.1 (fun r1 r2 h' => K (.func (.func 186) #[] #[(.pointer (some r1)), (.pointer (some r2))]) h') h)
  (fun x K h => B127c x.1 x.2.1 (fun r1 r2 h' => K (.func (.func 186) #[] #[(.pointer (some r1)), (.pointer (some r2))]) h') h)
  (by rw [F127c_eq]) (fun x K h => by kernel_rfl)

/-- (*pantry/pmap.Map).All$1 -/
def B200 (p0 : Value) (p1 : Addr) (Q : H → Prop) (h : H) : Prop :=
  Nw h (Value.cells p0) 228 fun a1 h2 =>
  Ld .p h2 (p1.add 0) fun x3 =>
  F188 x3 (fun r4 h5 =>
  Br (!r4)
  (Q  h5)
  (Ld .p h5 (p1.add 0) fun x6 =>
  NilP x6 fun a7 =>
  Ld .p h5 ((a7.add 0).add 0) fun x8 =>
  Ld .p h5 (p1.add 0) fun x9 =>
  NilP x9 fun a10 =>
  Ld (.i .i64) h5 ((a10.add 3).add 0) fun x11 =>
  F127c x8 x11 (fun r12 r13 h14 =>
  False) h5)) h2
noncomputable def F200 := Seal @B200
theorem F200_eq : @F200 = @B200 := Seal_eq _
noncomputable def E200 : Ent Try.prog := mkEnt tabOk 200 Try.f200 (Try.f200.body.getD .skip) Try.func200 (by kernel_rfl)
  [E188, E127c]
  ⟨[], [], [(2, (.q 0 (.q 1 (.q 2 (.q 3 (.q 4 (.q 5 (.q 6 (.q 7 (.m1 8 .done))))))))))]⟩
  [.one .f, .one .a] (by kernel_rfl)
  (fun x K h => F200 x.1 x.2.1 (fun  h' => K (.tuple #[]) h') h)
  (fun x K h => B200 x.1 x.2.1 (fun  h' => K (.tuple #[]) h') h)
  (by rw [F200_eq]) (fun x K h => by kernel_rfl)

/-- pantry/pantrylaw07.PmapNone -/
def B39 (p0 : Int) (p1 : Int) (p2 : Int) (p3 : Int) (p4 : Int) (Q : Bool → H → Prop) (h : H) : Prop :=
  Nw h #[(.int .i64 p0), (.int .i64 p1), (.int .i64 p2), (.int .i64 p3), (.int .i64 p4)] 179 fun a1 h2 =>
  Nw h2 (zeroC Try.prog 4) 4 fun a3 h4 =>
  Nw h4 (zeroC Try.prog 195) 195 fun a5 h6 =>
  LoopM (σ := List Nat × (Int × Unit)) (fun self7 z8 h9 =>
  Br (decide (z8.2.1 < 2))
  (IdxA 2 z8.2.1
  (Ld (.i .i64) h9 ((a1.add 2).add 0) fun x10 =>
  F131 (List.getD [none, (some a5)] (Int.toNat z8.2.1) none) x10 (fun r11 r12 r13 h14 =>
  Nw h14 (zeroC Try.prog 25) 25 fun a15 h16 =>
  St h16 (a15.add 0) (.int .i64 r11) fun h17 =>
  St h17 (a15.add 1) (.int .i64 r12) fun h18 =>
  Br r13
  (St h18 (a3.add 0) (.bool false) fun h19 =>
  TakeAll z8.1 h19 fun h20 =>
  Ld .b h20 (a3.add 0) fun x21 =>
  Q x21 h20)
  (Ld (.i .i64) h18 ((a1.add 2).add 0) fun x22 =>
  Ld (.i .i64) h18 ((a1.add 3).add 0) fun x23 =>
  Ld (.i .i64) h18 ((a1.add 4).add 0) fun x24 =>
  F130 (List.getD [none, (some a5)] (Int.toNat z8.2.1) none) x22 x23 x24 (fun r25 h26 =>
  Br (r25 != 1)
  (St h26 (a3.add 0) (.bool false) fun h27 =>
  TakeAll z8.1 h27 fun h28 =>
  Ld .b h28 (a3.add 0) fun x29 =>
  Q x29 h28)
  (Ld (.i .i64) h26 ((a1.add 2).add 0) fun x30 =>
  F134 (List.getD [none, (some a5)] (Int.toNat z8.2.1) none) x30 (fun r31 h32 =>
  Br r31
  (St h32 (a3.add 0) (.bool false) fun h33 =>
  TakeAll z8.1 h33 fun h34 =>
  Ld .b h34 (a3.add 0) fun x35 =>
  Q x35 h34)
  (Ld (.i .i64) h32 ((a1.add 2).add 0) fun x36 =>
  Ld (.i .i64) h32 ((a1.add 4).add 0) fun x37 =>
  F137 (List.getD [none, (some a5)] (Int.toNat z8.2.1) none) x36 x37 (fun r38 h39 =>
  Br r38
  (St h39 (a3.add 0) (.bool false) fun h40 =>
  TakeAll z8.1 h40 fun h41 =>
  Ld .b h41 (a3.add 0) fun x42 =>
  Q x42 h41)
  (Ld (.i .i64) h39 ((a1.add 2).add 0) fun x43 =>
  Ld (.i .i64) h39 ((a1.add 4).add 0) fun x44 =>
  F138 (List.getD [none, (some a5)] (Int.toNat z8.2.1) none) x43 x44 (fun r45 h46 =>
  F132 (List.getD [none, (some a5)] (Int.toNat z8.2.1) none) (fun r47 h48 =>
  F139 (List.getD [none, (some a5)] (Int.toNat z8.2.1) none) (fun r49 h50 =>
  Br ((IntKind.wrap .i64 ((IntKind.wrap .i64 (r45 + r47)) + r49)) != 0)
  (St h50 (a3.add 0) (.bool false) fun h51 =>
  TakeAll z8.1 h51 fun h52 =>
  Ld .b h52 (a3.add 0) fun x53 =>
  Q x53 h52)
  (F136 (List.getD [none, (some a5)] (Int.toNat z8.2.1) none) (fun r54 h55 =>
  Br (r54 != (-1))
  (St h55 (a3.add 0) (.bool false) fun h56 =>
  TakeAll z8.1 h56 fun h57 =>
  Ld .b h57 (a3.add 0) fun x58 =>
  Q x58 h57)
  (F149c (List.getD [none, (some a5)] (Int.toNat z8.2.1) none) (fun r59 h60 =>
  RngN (fun l63 K' h' => F200 (yV l63) r59 (fun h'' => K' h'') h') h60 fun D61 h62 =>
  self7 ((D61 :: z8.1), ((IntKind.wrap .i64 (z8.2.1 + 1)), ())) h62) h55)) h50)) h48) h46) h39)) h32)) h26)) h18)) h9))
  (F75 1 0 (fun r64 h65 =>
  F128 none r64 1 (fun r66 r67 h68 =>
  LetI r67 fun n69 =>
  F61 1 (fun r70 h71 =>
  F128 r70 none 1 (fun r72 r73 h74 =>
  LetI r73 fun n75 =>
  Br (n69 == 1)
  (Br (n75 == 1)
  (F129  (fun r76 h77 =>
  St h77 (a3.add 0) (.bool r76) fun h78 =>
  TakeAll z8.1 h78 fun h79 =>
  Ld .b h79 (a3.add 0) fun x80 =>
  Q x80 h79) h74)
  (St h74 (a3.add 0) (.bool false) fun h81 =>
  TakeAll z8.1 h81 fun h82 =>
  Ld .b h82 (a3.add 0) fun x83 =>
  Q x83 h82))
  (St h74 (a3.add 0) (.bool false) fun h84 =>
  TakeAll z8.1 h84 fun h85 =>
  Ld .b h85 (a3.add 0) fun x86 =>
  Q x86 h85)) h71) h68) h65) h9)) ([], (0, ())) h6
noncomputable def F39 := Seal @B39
theorem F39_eq : @F39 = @B39 := Seal_eq _
noncomputable def E39 : Ent Try.prog := mkEntM tabOk 39 Try.f39 (Try.f39.body.getD .skip) Try.func39 (by kernel_rfl)
  [E131, E130, E134, E137, E138, E132, E139, E136, E149c, E200, E75, E128, E61, E129]
  ⟨[], [(3, [(14, .one (.i .i64))])], []⟩
  [.agg [(.i .i64), (.i .i64), (.i .i64), (.i .i64), (.i .i64)]] (by kernel_rfl)
  (fun x K h => F39 x.1.1 x.1.2.1 x.1.2.2.1 x.1.2.2.2.1 x.1.2.2.2.2.1 (fun r1 h' => K (.bool r1) h') h)
  (fun x K h => B39 x.1.1 x.1.2.1 x.1.2.2.1 x.1.2.2.2.1 x.1.2.2.2.2.1 (fun r1 h' => K (.bool r1) h') h)
  (by rw [F39_eq]) (fun x K h => by kernel_rfl)

end Go.Proofs.Ytfijchofplkcoaa
