/-
  PRINTED BY wip/tools/emit.py: what each Go function comes to, as a predicate over the heap (the kernel holds each against the translated program).
-/
import Derived.Test.YtfijchofplkcoaaGd
set_option linter.unusedVariables false
set_option maxRecDepth 100000
namespace Go.Proofs.Ytfijchofplkcoaa

/-- pantry/pantrylaw06.lives -/
def B79 (Q : Bool → H → Prop) (h : H) : Prop :=
  F75 3 1 (fun r1 h2 =>
  F76 r1 2 1 0 (fun r3 r4 h5 =>
  LetI r3 fun n6 =>
  LetI r4 fun n7 =>
  F76 r1 2 1 0 (fun r8 r9 h10 =>
  LetI r8 fun n11 =>
  LetI r9 fun n12 =>
  F76 r1 2 1 0 (fun r13 r14 h15 =>
  LetI r13 fun n16 =>
  LetI r14 fun n17 =>
  F76 r1 1 1 0 (fun r18 r19 h20 =>
  LetI r18 fun n21 =>
  LetI r19 fun n22 =>
  Br (n6 == 0)
  (Br (n11 == 1)
  (Br (n21 == 2)
  (Br (n7 == 0)
  (Br (n12 == 0)
  (Br (n17 == 5)
  (Q (n22 == 0) h20)
  (Q false h20))
  (Q false h20))
  (Q false h20))
  (Q false h20))
  (Q false h20))
  (Q false h20)) h15) h10) h5) h2) h
noncomputable def F79 := Seal @B79
theorem F79_eq : @F79 = @B79 := Seal_eq _
noncomputable def E79 : Ent Try.prog := mkEnt tabOk 79 Try.f79 (Try.f79.body.getD .skip) Try.func79 (by kernel_rfl)
  [E75, E76]
  ⟨[], [], []⟩
  [] (by kernel_rfl)
  (fun x K h => F79  (fun r1 h' => K (.bool r1) h') h)
  (fun x K h => B79  (fun r1 h' => K (.bool r1) h') h)
  (by rw [F79_eq]) (fun x K h => by kernel_rfl)

/-- pantry/pantrylaw06.FramesReserve -/
def B15 (p0 : Int) (p1 : Int) (p2 : Int) (Q : Bool → H → Prop) (h : H) : Prop :=
  Asr ((30 : Int) ≠ 0)
  (LetI (IntKind.wrap .i64 (1 + (IntKind.wrap .i64 (Int.tmod p0 30)))) fun n1 =>
  Asr (((IntKind.wrap .u64 (IntKind.wrap .i64 (n1 + 1))) : Int) ≠ 0)
  (LetI (IntKind.wrap .i64 (Int.tmod p1 (IntKind.wrap .u64 (IntKind.wrap .i64 (n1 + 1))))) fun n2 =>
  F75 n1 n2 (fun r3 h4 =>
  Br (Option.isNone r3)
  (Q false h4)
  (LoopM (σ := Int × Unit) (fun self5 z6 h7 =>
  Br (decide (z6.1 < (IntKind.wrap .i64 (n1 - n2))))
  (F76 r3 3 7 z6.1 (fun r8 r9 h10 =>
  LetI r8 fun n11 =>
  LetI r9 fun n12 =>
  Br (n11 != z6.1)
  (Q false h10)
  (Br (n12 != 0)
  (Q false h10)
  (LetI (IntKind.wrap .i64 (z6.1 + 1)) fun n13 =>
  self5 (n13, ()) h10))) h7)
  (F76 r3 4 0 0 (fun r14 r15 h16 =>
  LetI r14 fun n17 =>
  LetI r15 fun n18 =>
  Br (n18 != 5)
  (Q false h16)
  (LetI (IntKind.wrap .i64 (n1 - n2)) fun n19 =>
  LoopM (σ := Int × Unit) (fun self20 z21 h22 =>
  Br (decide (z21.1 < n1))
  (F76 r3 1 7 z21.1 (fun r23 r24 h25 =>
  LetI r23 fun n26 =>
  LetI r24 fun n27 =>
  Br (n26 != z21.1)
  (Q false h25)
  (Br (n27 != 0)
  (Q false h25)
  (LetI (IntKind.wrap .i64 (z21.1 + 1)) fun n28 =>
  self20 (n28, ()) h25))) h22)
  (F76 r3 1 0 0 (fun r29 r30 h31 =>
  LetI r29 fun n32 =>
  LetI r30 fun n33 =>
  Br (n33 != 5)
  (Q false h31)
  (Asr (((IntKind.wrap .u64 n1) : Int) ≠ 0)
  (LetI (IntKind.wrap .i64 (Int.tmod p2 (IntKind.wrap .u64 n1))) fun n34 =>
  JoinM (σ := Unit) (fun J35 =>
  F77 r3 n34 (fun r38 h39 =>
  Br (r38 != 0)
  (Q false h39)
  (F77 r3 n34 (fun r40 h41 =>
  Br (r40 != 2)
  (Q false h41)
  (J35 (()) h41)) h39)) h31)
  (fun y36 h37 =>
  F76 r3 1 1 2 (fun r42 r43 h44 =>
  LetI r42 fun n45 =>
  LetI r43 fun n46 =>
  F78 r3 n34 (fun r47 r48 r49 r50 r51 r52 h53 =>
  Nw h53 (zeroC Try.prog 72) 72 fun a54 h55 =>
  St h55 (a54.add 0) (.int .i64 r47) fun h56 =>
  St h56 (a54.add 1) (.int .i64 r48) fun h57 =>
  St h57 (a54.add 2) (.int .i64 r49) fun h58 =>
  St h58 (a54.add 3) (.int .i64 r50) fun h59 =>
  St h59 (a54.add 4) (.int .i64 r51) fun h60 =>
  Br (n45 == n34)
  (Br (n46 == 0)
  (Ld (.i .i64) h60 (a54.add 0) fun x61 =>
  Ld (.i .i64) h60 (a54.add 1) fun x62 =>
  Ld (.i .i64) h60 (a54.add 2) fun x63 =>
  Ld (.i .i64) h60 (a54.add 3) fun x64 =>
  Ld (.i .i64) h60 (a54.add 4) fun x65 =>
  Br ((x61 == 1) && ((x62 == 1) && ((x63 == 2) && ((x64 == 0) && ((x65 == 0) && true)))))
  (F79  (fun r66 h67 =>
  Q r66 h67) h60)
  (Q false h60))
  (Q false h60))
  (Q false h60)) h44) h37)))) h22)) (n19, ()) h16)) h7)) (0, ()) h4)) h))
noncomputable def F15 := Seal @B15
theorem F15_eq : @F15 = @B15 := Seal_eq _
noncomputable def E15 : Ent Try.prog := mkEnt tabOk 15 Try.f15 (Try.f15.body.getD .skip) Try.func15 (by kernel_rfl)
  [E75, E76, E77, E78, E79]
  ⟨[(27, [])], [(7, [(10, .one (.i .i64))]), (16, [(15, .one (.i .i64))])], []⟩
  [.one (.i .u64), .one (.i .u64), .one (.i .u64)] (by kernel_rfl)
  (fun x K h => F15 x.1 x.2.1 x.2.2.1 (fun r1 h' => K (.bool r1) h') h)
  (fun x K h => B15 x.1 x.2.1 x.2.2.1 (fun r1 h' => K (.bool r1) h') h)
  (by rw [F15_eq]) (fun x K h => by kernel_rfl)

/-- pantry/pantrylaw06.act -/
def B96 (p0 : Option Addr) (p1 : Int) (p2 : Int) (p3 : Int) (p4 : Int) (p5 : Int) (Q : Int → Int → H → Prop) (h : H) : Prop :=
  Nw h #[(.int .i64 p1), (.int .i64 p2), (.int .i64 p3), (.int .i64 p4), (.int .i64 p5)] 108 fun a1 h2 =>
  JoinM (σ := Int × Int × Unit) (fun J3 =>
  Ld (.i .i64) h2 ((a1.add 0).add 0) fun x6 =>
  Br (x6 == 0)
  (Ld (.i .i64) h2 ((a1.add 2).add 0) fun x7 =>
  Ld (.i .i64) h2 ((a1.add 3).add 0) fun x8 =>
  Ld (.i .i64) h2 ((a1.add 4).add 0) fun x9 =>
  F76 p0 x7 x8 x9 (fun r10 r11 h12 =>
  LetI r10 fun n13 =>
  LetI r11 fun n14 =>
  J3 (n13, n14, ()) h12) h2)
  (Br (x6 == 1)
  (Ld (.i .i64) h2 ((a1.add 1).add 0) fun x15 =>
  F77 p0 x15 (fun r16 h17 =>
  LetI r16 fun n18 =>
  J3 (0, n18, ()) h17) h2)
  (Br (x6 == 2)
  (Ld (.i .i64) h2 ((a1.add 1).add 0) fun x19 =>
  Ld (.i .i64) h2 ((a1.add 2).add 0) fun x20 =>
  Ld (.i .i64) h2 ((a1.add 3).add 0) fun x21 =>
  Ld (.i .i64) h2 ((a1.add 4).add 0) fun x22 =>
  F104 p0 x19 x20 x21 x22 (fun r23 h24 =>
  LetI r23 fun n25 =>
  J3 (0, n25, ()) h24) h2)
  (Br (x6 == 3)
  (Ld (.i .i64) h2 ((a1.add 1).add 0) fun x26 =>
  Ld (.i .i64) h2 ((a1.add 2).add 0) fun x27 =>
  F102 p0 x26 x27 (fun r28 h29 =>
  LetI r28 fun n30 =>
  J3 (0, n30, ()) h29) h2)
  (Br (x6 == 4)
  (Ld (.i .i64) h2 ((a1.add 1).add 0) fun x31 =>
  Ld (.i .i64) h2 ((a1.add 2).add 0) fun x32 =>
  F103 p0 x31 x32 (fun r33 h34 =>
  LetI r33 fun n35 =>
  J3 (0, n35, ()) h34) h2)
  (J3 (0, 0, ()) h2))))))
  (fun y4 h5 =>
  LetI y4.1 fun n36 =>
  LetI y4.2.1 fun n37 =>
  Q n36 n37 h5)
noncomputable def F96 := Seal @B96
theorem F96_eq : @F96 = @B96 := Seal_eq _
noncomputable def E96 : Ent Try.prog := mkEnt tabOk 96 Try.f96 (Try.f96.body.getD .skip) Try.func96 (by kernel_rfl)
  [E76, E77, E104, E102, E103]
  ⟨[(13, [(6, .one (.i .i64)), (7, .one (.i .i64))])], [], []⟩
  [.one .p, .agg [(.i .i64), (.i .i64), (.i .i64), (.i .i64), (.i .i64)]] (by kernel_rfl)
  (fun x K h => F96 x.1 x.2.1.1 x.2.1.2.1 x.2.1.2.2.1 x.2.1.2.2.2.1 x.2.1.2.2.2.2.1 (fun r1 r2 h' => K (.tuple #[(.int .i64 r1), (.int .i64 r2)]) h') h)
  (fun x K h => B96 x.1 x.2.1.1 x.2.1.2.1 x.2.1.2.2.1 x.2.1.2.2.2.1 x.2.1.2.2.2.2.1 (fun r1 r2 h' => K (.tuple #[(.int .i64 r1), (.int .i64 r2)]) h') h)
  (by rw [F96_eq]) (fun x K h => by kernel_rfl)

/-- pantry/pantrylaw06.like -/
def B97 (p0 : Option Addr) (p1 : Int) (p2 : Int) (p3 : Int) (p4 : Int) (p5 : Int) (Q : Int → Int → H → Prop) (h : H) : Prop :=
  Nw h #[(.int .i64 p1), (.int .i64 p2), (.int .i64 p3), (.int .i64 p4), (.int .i64 p5)] 108 fun a1 h2 =>
  JoinM (σ := Int × Int × Unit) (fun J3 =>
  Ld (.i .i64) h2 ((a1.add 0).add 0) fun x6 =>
  Br (x6 == 0)
  (Ld (.i .i64) h2 ((a1.add 2).add 0) fun x7 =>
  Ld (.i .i64) h2 ((a1.add 3).add 0) fun x8 =>
  Ld (.i .i64) h2 ((a1.add 4).add 0) fun x9 =>
  F171 p0 x7 x8 x9 (fun r10 r11 h12 =>
  LetI r10 fun n13 =>
  LetI r11 fun n14 =>
  J3 (n13, n14, ()) h12) h2)
  (Br (x6 == 1)
  (Ld (.i .i64) h2 ((a1.add 1).add 0) fun x15 =>
  F172 p0 x15 (fun r16 h17 =>
  LetI r16 fun n18 =>
  J3 (0, n18, ()) h17) h2)
  (Br (x6 == 2)
  (Ld (.i .i64) h2 ((a1.add 1).add 0) fun x19 =>
  Ld (.i .i64) h2 ((a1.add 2).add 0) fun x20 =>
  Ld (.i .i64) h2 ((a1.add 3).add 0) fun x21 =>
  Ld (.i .i64) h2 ((a1.add 4).add 0) fun x22 =>
  F173 p0 x19 x20 x21 x22 (fun r23 h24 =>
  LetI r23 fun n25 =>
  J3 (0, n25, ()) h24) h2)
  (Br (x6 == 3)
  (Ld (.i .i64) h2 ((a1.add 1).add 0) fun x26 =>
  Ld (.i .i64) h2 ((a1.add 2).add 0) fun x27 =>
  F174 p0 x26 x27 (fun r28 h29 =>
  LetI r28 fun n30 =>
  J3 (0, n30, ()) h29) h2)
  (Br (x6 == 4)
  (Ld (.i .i64) h2 ((a1.add 1).add 0) fun x31 =>
  Ld (.i .i64) h2 ((a1.add 2).add 0) fun x32 =>
  F175 p0 x31 x32 (fun r33 h34 =>
  LetI r33 fun n35 =>
  J3 (0, n35, ()) h34) h2)
  (J3 (0, 0, ()) h2))))))
  (fun y4 h5 =>
  LetI y4.1 fun n36 =>
  LetI y4.2.1 fun n37 =>
  Q n36 n37 h5)
noncomputable def F97 := Seal @B97
theorem F97_eq : @F97 = @B97 := Seal_eq _
noncomputable def E97 : Ent Try.prog := mkEnt tabOk 97 Try.f97 (Try.f97.body.getD .skip) Try.func97 (by kernel_rfl)
  [E171, E172, E173, E174, E175]
  ⟨[(13, [(6, .one (.i .i64)), (7, .one (.i .i64))])], [], []⟩
  [.one .p, .agg [(.i .i64), (.i .i64), (.i .i64), (.i .i64), (.i .i64)]] (by kernel_rfl)
  (fun x K h => F97 x.1 x.2.1.1 x.2.1.2.1 x.2.1.2.2.1 x.2.1.2.2.2.1 x.2.1.2.2.2.2.1 (fun r1 r2 h' => K (.tuple #[(.int .i64 r1), (.int .i64 r2)]) h') h)
  (fun x K h => B97 x.1 x.2.1.1 x.2.1.2.1 x.2.1.2.2.1 x.2.1.2.2.2.1 x.2.1.2.2.2.2.1 (fun r1 r2 h' => K (.tuple #[(.int .i64 r1), (.int .i64 r2)]) h') h)
  (by rw [F97_eq]) (fun x K h => by kernel_rfl)

/-- pantry/pantrylaw06.FramesActs -/
def B20 (p0 : Int) (p1 : Int) (p2 : Sl) (Q : Bool → H → Prop) (h : H) : Prop :=
  F75 p0 p1 (fun r1 h2 =>
  F95 p0 p1 (fun r3 h4 =>
  Br (!((Option.isNone r1) == (Option.isNone r3)))
  (Q false h4)
  (JoinM (σ := Unit) (fun J5 =>
  Br (Option.isNone r3)
  (F79  (fun r8 h9 =>
  Q r8 h9) h4)
  (Br (decide (((p2.len : Nat) : Int) > 150))
  (F79  (fun r10 h11 =>
  Q r10 h11) h4)
  (J5 (()) h4)))
  (fun y6 h7 =>
  LoopM (σ := Int × Unit) (fun self12 z13 h14 =>
  Br (decide (z13.1 < ((p2.len : Nat) : Int)))
  (IdxS p2.a p2.len z13.1 fun a15 =>
  Ld (.i .i64) h14 ((a15.add (Int.toNat z13.1 * 5)).add 0) fun x16 =>
  Ld (.i .i64) h14 ((a15.add (Int.toNat z13.1 * 5)).add 1) fun x17 =>
  Ld (.i .i64) h14 ((a15.add (Int.toNat z13.1 * 5)).add 2) fun x18 =>
  Ld (.i .i64) h14 ((a15.add (Int.toNat z13.1 * 5)).add 3) fun x19 =>
  Ld (.i .i64) h14 ((a15.add (Int.toNat z13.1 * 5)).add 4) fun x20 =>
  Nw h14 (zeroC Try.prog 108) 108 fun a21 h22 =>
  St h22 (a21.add 0) (.int .i64 x16) fun h23 =>
  St h23 (a21.add 1) (.int .i64 x17) fun h24 =>
  St h24 (a21.add 2) (.int .i64 x18) fun h25 =>
  St h25 (a21.add 3) (.int .i64 x19) fun h26 =>
  St h26 (a21.add 4) (.int .i64 x20) fun h27 =>
  Ld (.i .i64) h27 (a21.add 0) fun x28 =>
  Ld (.i .i64) h27 (a21.add 1) fun x29 =>
  Ld (.i .i64) h27 (a21.add 2) fun x30 =>
  Ld (.i .i64) h27 (a21.add 3) fun x31 =>
  Ld (.i .i64) h27 (a21.add 4) fun x32 =>
  F96 r1 x28 x29 x30 x31 x32 (fun r33 r34 h35 =>
  LetI r33 fun n36 =>
  LetI r34 fun n37 =>
  Ld (.i .i64) h35 (a21.add 0) fun x38 =>
  Ld (.i .i64) h35 (a21.add 1) fun x39 =>
  Ld (.i .i64) h35 (a21.add 2) fun x40 =>
  Ld (.i .i64) h35 (a21.add 3) fun x41 =>
  Ld (.i .i64) h35 (a21.add 4) fun x42 =>
  F97 r3 x38 x39 x40 x41 x42 (fun r43 r44 h45 =>
  LetI r43 fun n46 =>
  LetI r44 fun n47 =>
  Br (n36 != n46)
  (Q false h45)
  (Br (n37 != n47)
  (Q false h45)
  (F98 r1 (fun r48 h49 =>
  F99 r3 0 (fun r50 h51 =>
  Br (r48 != r50)
  (Q false h51)
  (Ld (.i .i64) h51 ((a21.add 2).add 0) fun x52 =>
  Ld (.i .i64) h51 ((a21.add 2).add 0) fun x53 =>
  F100 r1 x52 (fun r54 h55 =>
  (hcell h55 ((a21.add 2).add 0) = some (.int .i64 x53)) ∧
  F99 r3 x53 (fun r56 h57 =>
  Br (r54 != r56)
  (Q false h57)
  (self12 ((IntKind.wrap .i64 (z13.1 + 1)), ()) h57)) h55) h51)) h49) h45))) h35) h27)
  (LoopM (σ := Int × Unit) (fun self58 z59 h60 =>
  Br (decide (z59.1 ≤ p0))
  (F78 r1 z59.1 (fun r61 r62 r63 r64 r65 r66 h67 =>
  Nw h67 (zeroC Try.prog 72) 72 fun a68 h69 =>
  St h69 (a68.add 0) (.int .i64 r61) fun h70 =>
  St h70 (a68.add 1) (.int .i64 r62) fun h71 =>
  St h71 (a68.add 2) (.int .i64 r63) fun h72 =>
  St h72 (a68.add 3) (.int .i64 r64) fun h73 =>
  St h73 (a68.add 4) (.int .i64 r65) fun h74 =>
  F101 r3 z59.1 (fun r75 r76 r77 r78 r79 r80 h81 =>
  Nw h81 (zeroC Try.prog 111) 111 fun a82 h83 =>
  St h83 (a82.add 0) (.int .i64 r75) fun h84 =>
  St h84 (a82.add 1) (.int .i64 r76) fun h85 =>
  St h85 (a82.add 2) (.int .i64 r77) fun h86 =>
  St h86 (a82.add 3) (.int .i64 r78) fun h87 =>
  St h87 (a82.add 4) (.int .i64 r79) fun h88 =>
  Ld (.i .i64) h88 (a68.add 0) fun x89 =>
  Ld (.i .i64) h88 (a68.add 1) fun x90 =>
  Ld (.i .i64) h88 (a68.add 2) fun x91 =>
  Ld (.i .i64) h88 (a68.add 3) fun x92 =>
  Ld (.i .i64) h88 (a68.add 4) fun x93 =>
  Ld (.i .i64) h88 (a82.add 0) fun x94 =>
  Ld (.i .i64) h88 (a82.add 1) fun x95 =>
  Ld (.i .i64) h88 (a82.add 2) fun x96 =>
  Ld (.i .i64) h88 (a82.add 3) fun x97 =>
  Ld (.i .i64) h88 (a82.add 4) fun x98 =>
  Br (!((x89 == x94) && ((x90 == x95) && ((x91 == x96) && ((x92 == x97) && ((x93 == x98) && true))))))
  (Q false h88)
  (Br (!(r66 == r80))
  (Q false h88)
  (LetI (IntKind.wrap .i64 (z59.1 + 1)) fun n99 =>
  self58 (n99, ()) h88))) h74) h60)
  (F79  (fun r100 h101 =>
  Q r100 h101) h60)) ((-1), ()) h14)) (0, ()) h7))) h2) h
noncomputable def F20 := Seal @B20
theorem F20_eq : @F20 = @B20 := Seal_eq _
noncomputable def E20 : Ent Try.prog := mkEnt tabOk 20 Try.f20 (Try.f20.body.getD .skip) Try.func20 (by kernel_rfl)
  [E75, E95, E79, E96, E97, E98, E99, E100, E78, E101]
  ⟨[(6, [])], [(7, [(41, .one (.i .i64))]), (15, [(15, .one (.i .i64))])], [(11, (.q 0 (.q 1 (.q 2 (.q 3 (.q 4 (.q 5 (.q 6 (.q 7 (.q 8 (.q 9 (.q 11 (.m1 10 (.m1 12 (.q 13 (.q 14 (.q 15 (.q 16 (.q 17 (.q 18 (.q 20 (.q 21 (.q 22 (.m1 19 (.m1 23 (.q 24 (.q 25 .done)))))))))))))))))))))))))))]⟩
  [.one (.i .i64), .one (.i .i64), .one .s] (by kernel_rfl)
  (fun x K h => F20 x.1 x.2.1 x.2.2.1 (fun r1 h' => K (.bool r1) h') h)
  (fun x K h => B20 x.1 x.2.1 x.2.2.1 (fun r1 h' => K (.bool r1) h') h)
  (by rw [F20_eq]) (fun x K h => by kernel_rfl)

/-- pantry/pantrylaw06.FramesClasses -/
def B21 (p0 : Int) (p1 : Sl) (Q : Bool → H → Prop) (h : H) : Prop :=
  Asr ((20 : Int) ≠ 0)
  (LetI (IntKind.wrap .i64 (1 + (IntKind.wrap .i64 (Int.tmod p0 20)))) fun n1 =>
  Asr ((4 : Int) ≠ 0)
  (F75 n1 (IntKind.wrap .i64 (Int.tdiv n1 4)) (fun r2 h3 =>
  JoinM (σ := Unit) (fun J4 =>
  Br (Option.isNone r2)
  (Br (!(Option.isNone r2))
  (F79  (fun r7 h8 =>
  Q r7 h8) h3)
  (Q false h3))
  (Br (decide (((p1.len : Nat) : Int) > 150))
  (Br (!(Option.isNone r2))
  (F79  (fun r9 h10 =>
  Q r9 h10) h3)
  (Q false h3))
  (J4 (()) h3)))
  (fun y5 h6 =>
  LoopM (σ := Int × Unit) (fun self11 z12 h13 =>
  Br (decide (z12.1 < ((p1.len : Nat) : Int)))
  (IdxS p1.a p1.len z12.1 fun a14 =>
  Ld (.i .i64) h13 ((a14.add (Int.toNat z12.1 * 5)).add 0) fun x15 =>
  Ld (.i .i64) h13 ((a14.add (Int.toNat z12.1 * 5)).add 1) fun x16 =>
  Ld (.i .i64) h13 ((a14.add (Int.toNat z12.1 * 5)).add 2) fun x17 =>
  Ld (.i .i64) h13 ((a14.add (Int.toNat z12.1 * 5)).add 3) fun x18 =>
  Ld (.i .i64) h13 ((a14.add (Int.toNat z12.1 * 5)).add 4) fun x19 =>
  Nw h13 (zeroC Try.prog 108) 108 fun a20 h21 =>
  St h21 (a20.add 0) (.int .i64 x15) fun h22 =>
  St h22 (a20.add 1) (.int .i64 x16) fun h23 =>
  St h23 (a20.add 2) (.int .i64 x17) fun h24 =>
  St h24 (a20.add 3) (.int .i64 x18) fun h25 =>
  St h25 (a20.add 4) (.int .i64 x19) fun h26 =>
  Ld (.i .i64) h26 ((a20.add 1).add 0) fun x27 =>
  F78 r2 x27 (fun r28 r29 r30 r31 r32 r33 h34 =>
  Nw h34 (zeroC Try.prog 72) 72 fun a35 h36 =>
  St h36 (a35.add 0) (.int .i64 r28) fun h37 =>
  St h37 (a35.add 1) (.int .i64 r29) fun h38 =>
  St h38 (a35.add 2) (.int .i64 r30) fun h39 =>
  St h39 (a35.add 3) (.int .i64 r31) fun h40 =>
  St h40 (a35.add 4) (.int .i64 r32) fun h41 =>
  Ld (.i .i64) h41 (a20.add 0) fun x42 =>
  Ld (.i .i64) h41 (a20.add 1) fun x43 =>
  Ld (.i .i64) h41 (a20.add 2) fun x44 =>
  Ld (.i .i64) h41 (a20.add 3) fun x45 =>
  Ld (.i .i64) h41 (a20.add 4) fun x46 =>
  F96 r2 x42 x43 x44 x45 x46 (fun r47 r48 h49 =>
  LetI r47 fun n50 =>
  LetI r48 fun n51 =>
  JoinM (σ := Unit) (fun J52 =>
  Ld (.i .i64) h49 ((a20.add 0).add 0) fun x55 =>
  Br (x55 == 1)
  (Br r33
  (Ld (.i .i64) h49 ((a35.add 3).add 0) fun x56 =>
  Br (decide (x56 > 0))
  (Br (n51 != 8)
  (Q false h49)
  (J52 (()) h49))
  (Ld (.i .i64) h49 ((a35.add 4).add 0) fun x57 =>
  Br (decide (x57 > 0))
  (Br (n51 != 8)
  (Q false h49)
  (J52 (()) h49))
  (J52 (()) h49)))
  (J52 (()) h49))
  (J52 (()) h49))
  (fun y53 h54 =>
  LoopM (σ := Int × Int × Unit) (fun self58 z59 h60 =>
  Br (decide (z59.2.1 < 5))
  (F100 r2 z59.2.1 (fun r61 h62 =>
  LetI (IntKind.wrap .i64 (z59.1 + r61)) fun n63 =>
  LetI (IntKind.wrap .i64 (z59.2.1 + 1)) fun n64 =>
  self58 (n63, n64, ()) h62) h60)
  (JoinM (σ := Unit) (fun J65 =>
  Br (z59.1 != n1)
  (Q false h60)
  (F100 r2 0 (fun r68 h69 =>
  F98 r2 (fun r70 h71 =>
  Br (r68 != r70)
  (Q false h71)
  (J65 (()) h71)) h69) h60))
  (fun y66 h67 =>
  LoopM (σ := Int × Unit) (fun self72 z73 h74 =>
  Br (decide (z73.1 < n1))
  (F78 r2 z73.1 (fun r75 r76 r77 r78 r79 r80 h81 =>
  Nw h81 (zeroC Try.prog 72) 72 fun a82 h83 =>
  St h83 (a82.add 0) (.int .i64 r75) fun h84 =>
  St h84 (a82.add 1) (.int .i64 r76) fun h85 =>
  St h85 (a82.add 2) (.int .i64 r77) fun h86 =>
  St h86 (a82.add 3) (.int .i64 r78) fun h87 =>
  St h87 (a82.add 4) (.int .i64 r79) fun h88 =>
  Ld (.i .i64) h88 ((a82.add 0).add 0) fun x89 =>
  Br (x89 == 0)
  (Ld (.i .i64) h88 (a82.add 0) fun x90 =>
  Ld (.i .i64) h88 (a82.add 1) fun x91 =>
  Ld (.i .i64) h88 (a82.add 2) fun x92 =>
  Ld (.i .i64) h88 (a82.add 3) fun x93 =>
  Ld (.i .i64) h88 (a82.add 4) fun x94 =>
  Br (!((x90 == 0) && ((x91 == 0) && ((x92 == 0) && ((x93 == 0) && ((x94 == 0) && true))))))
  (Q false h88)
  (Ld (.i .i64) h88 ((a82.add 3).add 0) fun x95 =>
  Br (decide (x95 < 0))
  (Q false h88)
  (Ld (.i .i64) h88 ((a82.add 4).add 0) fun x96 =>
  Br (decide (x96 < 0))
  (Q false h88)
  (LetI (IntKind.wrap .i64 (z73.1 + 1)) fun n97 =>
  self72 (n97, ()) h88))))
  (Ld (.i .i64) h88 ((a82.add 3).add 0) fun x98 =>
  Br (decide (x98 < 0))
  (Q false h88)
  (Ld (.i .i64) h88 ((a82.add 4).add 0) fun x99 =>
  Br (decide (x99 < 0))
  (Q false h88)
  (LetI (IntKind.wrap .i64 (z73.1 + 1)) fun n100 =>
  self72 (n100, ()) h88)))) h74)
  (self11 ((IntKind.wrap .i64 (z12.1 + 1)), ()) h74)) (0, ()) h67))) (0, 0, ()) h54)) h41) h26)
  (F79  (fun r101 h102 =>
  Q r101 h102) h13)) (0, ()) h6)) h))
noncomputable def F21 := Seal @B21
theorem F21_eq : @F21 = @B21 := Seal_eq _
noncomputable def E21 : Ent Try.prog := mkEnt tabOk 21 Try.f21 (Try.f21.body.getD .skip) Try.func21 (by kernel_rfl)
  [E75, E79, E78, E96, E100, E98]
  ⟨[(5, []), (12, []), (19, [])], [(6, [(40, .one (.i .i64))]), (14, [(13, .one (.i .i64)), (14, .one (.i .i64))]), (20, [(15, .one (.i .i64))])], []⟩
  [.one (.i .u64), .one .s] (by kernel_rfl)
  (fun x K h => F21 x.1 x.2.1 (fun r1 h' => K (.bool r1) h') h)
  (fun x K h => B21 x.1 x.2.1 (fun r1 h' => K (.bool r1) h') h)
  (by rw [F21_eq]) (fun x K h => by kernel_rfl)

/-- pantry/pantrylaw06.FramesNone -/
def B22 (p0 : Int) (p1 : Int) (p2 : Int) (p3 : Int) (p4 : Int) (Q : Bool → H → Prop) (h : H) : Prop :=
  Nw h #[(.int .i64 p0), (.int .i64 p1), (.int .i64 p2), (.int .i64 p3), (.int .i64 p4)] 108 fun a1 h2 =>
  Nw h2 (zeroC Try.prog 118) 118 fun a3 h4 =>
  LoopM (σ := Int × Unit) (fun self5 z6 h7 =>
  Br (decide (z6.1 < 2))
  (IdxA 2 z6.1
  (LoopM (σ := Int × Unit) (fun self8 z9 h10 =>
  Br (decide (z9.1 < 5))
  (St h10 ((a1.add 0).add 0) (.int .i64 z9.1) fun h11 =>
  Ld (.i .i64) h11 (a1.add 0) fun x12 =>
  Ld (.i .i64) h11 (a1.add 1) fun x13 =>
  Ld (.i .i64) h11 (a1.add 2) fun x14 =>
  Ld (.i .i64) h11 (a1.add 3) fun x15 =>
  Ld (.i .i64) h11 (a1.add 4) fun x16 =>
  F96 (List.getD [none, (some a3)] (Int.toNat z6.1) none) x12 x13 x14 x15 x16 (fun r17 r18 h19 =>
  LetI r17 fun n20 =>
  LetI r18 fun n21 =>
  Br (n20 != 0)
  (Q false h19)
  (Br (n21 != 1)
  (Q false h19)
  (LetI (IntKind.wrap .i64 (z9.1 + 1)) fun n22 =>
  self8 (n22, ()) h19))) h11)
  (Ld (.i .i64) h10 ((a1.add 1).add 0) fun x23 =>
  F78 (List.getD [none, (some a3)] (Int.toNat z6.1) none) x23 (fun r24 r25 r26 r27 r28 r29 h30 =>
  Nw h30 (zeroC Try.prog 72) 72 fun a31 h32 =>
  St h32 (a31.add 0) (.int .i64 r24) fun h33 =>
  St h33 (a31.add 1) (.int .i64 r25) fun h34 =>
  St h34 (a31.add 2) (.int .i64 r26) fun h35 =>
  St h35 (a31.add 3) (.int .i64 r27) fun h36 =>
  St h36 (a31.add 4) (.int .i64 r28) fun h37 =>
  Br r29
  (Q false h37)
  (Ld (.i .i64) h37 ((a1.add 2).add 0) fun x38 =>
  F98 (List.getD [none, (some a3)] (Int.toNat z6.1) none) (fun r39 h40 =>
  (hcell h40 ((a1.add 2).add 0) = some (.int .i64 x38)) ∧
  F100 (List.getD [none, (some a3)] (Int.toNat z6.1) none) x38 (fun r41 h42 =>
  Br ((IntKind.wrap .i64 (r39 + r41)) != 0)
  (Q false h42)
  (self5 ((IntKind.wrap .i64 (z6.1 + 1)), ()) h42)) h40) h37)) h10)) (0, ()) h7))
  (F79  (fun r43 h44 =>
  Q r43 h44) h7)) (0, ()) h4
noncomputable def F22 := Seal @B22
theorem F22_eq : @F22 = @B22 := Seal_eq _
noncomputable def E22 : Ent Try.prog := mkEnt tabOk 22 Try.f22 (Try.f22.body.getD .skip) Try.func22 (by kernel_rfl)
  [E96, E78, E98, E100, E79]
  ⟨[], [(3, [(12, .one (.i .i64))]), (6, [(6, .one (.i .i64))])], [(13, (.q 0 (.q 1 (.q 2 (.q 4 (.q 5 (.q 6 (.m1 3 (.m1 7 (.q 8 (.q 9 (.q 10 .done))))))))))))]⟩
  [.agg [(.i .i64), (.i .i64), (.i .i64), (.i .i64), (.i .i64)]] (by kernel_rfl)
  (fun x K h => F22 x.1.1 x.1.2.1 x.1.2.2.1 x.1.2.2.2.1 x.1.2.2.2.2.1 (fun r1 h' => K (.bool r1) h') h)
  (fun x K h => B22 x.1.1 x.1.2.1 x.1.2.2.1 x.1.2.2.2.1 x.1.2.2.2.2.1 (fun r1 h' => K (.bool r1) h') h)
  (by rw [F22_eq]) (fun x K h => by kernel_rfl)

/-- pantry/pantrylaw06.FramesHolds -/
def B23 (p0 : Int) (p1 : Int) (Q : Bool → H → Prop) (h : H) : Prop :=
  F75 2 0 (fun r1 h2 =>
  F76 r1 2 3 4 (fun r3 r4 h5 =>
  LetI r3 fun n6 =>
  LetI r4 fun n7 =>
  Br (n7 != 0)
  (Q false h5)
  (Asr ((1000 : Int) ≠ 0)
  (Asr ((1000 : Int) ≠ 0)
  (LetI (IntKind.wrap .i64 (Int.tmod p0 1000)) fun n8 =>
  LetI (IntKind.wrap .i64 (Int.tmod p1 1000)) fun n9 =>
  JoinM (σ := Unit) (fun J10 =>
  F102 r1 n6 n8 (fun r13 h14 =>
  Br (r13 != 0)
  (Q false h14)
  (F103 r1 n6 n9 (fun r15 h16 =>
  Br (r15 != 0)
  (Q false h16)
  (F102 r1 n6 (IntKind.wrap .i64 ((IntKind.wrap .i64 (0 - n8)) - 1)) (fun r17 h18 =>
  Br (r17 != 2)
  (Q false h18)
  (F103 r1 n6 (IntKind.wrap .i64 ((IntKind.wrap .i64 (0 - n9)) - 1)) (fun r19 h20 =>
  Br (r19 != 2)
  (Q false h20)
  (J10 (()) h20)) h18)) h16)) h14)) h5)
  (fun y11 h12 =>
  F78 r1 n6 (fun r21 r22 r23 r24 r25 r26 h27 =>
  Nw h27 (zeroC Try.prog 72) 72 fun a28 h29 =>
  St h29 (a28.add 0) (.int .i64 r21) fun h30 =>
  St h30 (a28.add 1) (.int .i64 r22) fun h31 =>
  St h31 (a28.add 2) (.int .i64 r23) fun h32 =>
  St h32 (a28.add 3) (.int .i64 r24) fun h33 =>
  St h33 (a28.add 4) (.int .i64 r25) fun h34 =>
  Ld (.i .i64) h34 (a28.add 0) fun x35 =>
  Ld (.i .i64) h34 (a28.add 1) fun x36 =>
  Ld (.i .i64) h34 (a28.add 2) fun x37 =>
  Ld (.i .i64) h34 (a28.add 3) fun x38 =>
  Ld (.i .i64) h34 (a28.add 4) fun x39 =>
  Br (!((x35 == 2) && ((x36 == 3) && ((x37 == 4) && ((x38 == n8) && ((x39 == n9) && true))))))
  (Q false h34)
  (JoinM (σ := Unit) (fun J40 =>
  F77 r1 n6 (fun r43 h44 =>
  LetI r43 fun n45 =>
  Br (!((n45 == 0) == ((IntKind.wrap .i64 (n8 + n9)) == 0)))
  (Q false h44)
  (Br (n45 != 0)
  (Br (n45 != 8)
  (Q false h44)
  (J40 (()) h44))
  (J40 (()) h44))) h34)
  (fun y41 h42 =>
  Br ((IntKind.wrap .i64 (n8 + n9)) == 0)
  (F102 r1 n6 1 (fun r46 h47 =>
  Br (r46 == 2)
  (F79  (fun r48 h49 =>
  Q r48 h49) h47)
  (Q false h47)) h42)
  (F104 r1 n6 4 0 0 (fun r50 h51 =>
  Br (r50 == 0)
  (F102 r1 n6 (IntKind.wrap .i64 (0 - n8)) (fun r52 h53 =>
  Br (r52 == 0)
  (F103 r1 n6 (IntKind.wrap .i64 (0 - n9)) (fun r54 h55 =>
  Br (r54 == 0)
  (F77 r1 n6 (fun r56 h57 =>
  Br (r56 == 0)
  (F98 r1 (fun r58 h59 =>
  Br (r58 == 2)
  (F79  (fun r60 h61 =>
  Q r60 h61) h59)
  (Q false h59)) h57)
  (Q false h57)) h55)
  (Q false h55)) h53)
  (Q false h53)) h51)
  (Q false h51)) h42)))) h12))))) h2) h
noncomputable def F23 := Seal @B23
theorem F23_eq : @F23 = @B23 := Seal_eq _
noncomputable def E23 : Ent Try.prog := mkEnt tabOk 23 Try.f23 (Try.f23.body.getD .skip) Try.func23 (by kernel_rfl)
  [E75, E76, E102, E103, E78, E77, E79, E104, E98]
  ⟨[(8, []), (14, [])], [], []⟩
  [.one (.i .u64), .one (.i .u64)] (by kernel_rfl)
  (fun x K h => F23 x.1 x.2.1 (fun r1 h' => K (.bool r1) h') h)
  (fun x K h => B23 x.1 x.2.1 (fun r1 h' => K (.bool r1) h') h)
  (by rw [F23_eq]) (fun x K h => by kernel_rfl)

end Go.Proofs.Ytfijchofplkcoaa
