/-
  PRINTED BY wip/tools/emit.py: what each Go function comes to, as a predicate over the heap (the kernel holds each against the translated program).
-/
import Derived.Test.YtfijchofplkcoaaSt
set_option linter.unusedVariables false
set_option maxRecDepth 100000
namespace Go.Proofs.Ytfijchofplkcoaa

/-- pantry/pte.low -/
def B150 (p0 : Int) (p1 : Int) (Q : Int → H → Prop) (h : H) : Prop :=
  Asr ((0 : Int) ≤ p1)
  (LetI (bAnd .u64 p0 (IntKind.wrap .u64 ((shL .u64 1 p1) - 1))) fun n1 =>
  Q n1 h)
noncomputable def F150 := Seal @B150
theorem F150_eq : @F150 = @B150 := Seal_eq _
noncomputable def E150 : Ent Try.prog := mkEnt tabOk 150 Try.f150 (Try.f150.body.getD .skip) Try.func150 (by kernel_rfl)
  []
  ⟨[], [], []⟩
  [.one (.i .u64), .one (.i .i64)] (by kernel_rfl)
  (fun x K h => F150 x.1 x.2.1 (fun r1 h' => K (.int .u64 r1) h') h)
  (fun x K h => B150 x.1 x.2.1 (fun r1 h' => K (.int .u64 r1) h') h)
  (by rw [F150_eq]) (fun x K h => by kernel_rfl)

/-- pantry/pte.Encode -/
def B41 (p0 : Int) (p1 : Int) (Q : Int → H → Prop) (h : H) : Prop :=
  Nw h #[(.int .i64 p0), (.int .i64 p1)] 25 fun a1 h2 =>
  Ld (.i .i64) h2 ((a1.add 1).add 0) fun x3 =>
  QC [.one (.i .u64)] h2 (fun K' h' => F150 (IntKind.wrap .u64 x3) 44 (fun r5 h'' => K' (.int .u64 r5) h'') h') fun x4 =>
  Asr ((0 : Int) ≤ 10)
  (Ld (.i .i64) h2 ((a1.add 0).add 0) fun x6 =>
  QC [.one (.i .u64)] h2 (fun K' h' => F150 (IntKind.wrap .u64 x6) 8 (fun r8 h'' => K' (.int .u64 r8) h'') h') fun x7 =>
  LetI (bOr .u64 (shL .u64 x4.1 10) x7.1) fun n9 =>
  Q n9 h2)
noncomputable def F41 := Seal @B41
theorem F41_eq : @F41 = @B41 := Seal_eq _
noncomputable def E41 : Ent Try.prog := mkEnt tabOk 41 Try.f41 (Try.f41.body.getD .skip) Try.func41 (by kernel_rfl)
  [E150]
  ⟨[], [], [(1, (.q 0 (.q 1 (.q 2 (.qc 3 [.one (.i .u64)] (.q 4 (.q 5 (.q 6 (.q 7 (.qc 8 [.one (.i .u64)] (.q 9 (.q 10 .done))))))))))))]⟩
  [.agg [(.i .i64), (.i .i64)]] (by kernel_rfl)
  (fun x K h => F41 x.1.1 x.1.2.1 (fun r1 h' => K (.int .u64 r1) h') h)
  (fun x K h => B41 x.1.1 x.1.2.1 (fun r1 h' => K (.int .u64 r1) h') h)
  (by rw [F41_eq]) (fun x K h => by kernel_rfl)

/-- pantry/pte.Decode -/
def B40 (p0 : Int) (Q : Int → Int → H → Prop) (h : H) : Prop :=
  Nw h (zeroC Try.prog 25) 25 fun a1 h2 =>
  F150 p0 8 (fun r3 h4 =>
  Asr ((0 : Int) ≤ 10)
  (F150 (shR .u64 p0 10) 44 (fun r5 h6 =>
  St h6 (a1.add 0) (.int .i64 (IntKind.wrap .i64 r3)) fun h7 =>
  St h7 (a1.add 1) (.int .i64 (IntKind.wrap .i64 r5)) fun h8 =>
  Ld (.i .i64) h8 (a1.add 0) fun x9 =>
  Ld (.i .i64) h8 (a1.add 1) fun x10 =>
  Q x9 x10 h8) h4)) h2
noncomputable def F40 := Seal @B40
theorem F40_eq : @F40 = @B40 := Seal_eq _
noncomputable def E40 : Ent Try.prog := mkEnt tabOk 40 Try.f40 (Try.f40.body.getD .skip) Try.func40 (by kernel_rfl)
  [E150]
  ⟨[], [], []⟩
  [.one (.i .u64)] (by kernel_rfl)
  (fun x K h => F40 x.1 (fun r1 r2 h' => K (.agg #[(.int .i64 r1), (.int .i64 r2)]) h') h)
  (fun x K h => B40 x.1 (fun r1 r2 h' => K (.agg #[(.int .i64 r1), (.int .i64 r2)]) h') h)
  (by rw [F40_eq]) (fun x K h => by kernel_rfl)

/-- pantry/pte.Index -/
def B44 (p0 : Int) (p1 : Int) (Q : Int → H → Prop) (h : H) : Prop :=
  JoinM (σ := Unit) (fun J1 =>
  Br (decide (p1 < 0))
  (Q 0 h)
  (Br (decide (p1 ≥ 3))
  (Q 0 h)
  (J1 (()) h)))
  (fun y2 h3 =>
  Asr ((0 : Int) ≤ (IntKind.wrap .i64 (9 * p1)))
  (F150 (shR .u64 (IntKind.wrap .u64 p0) (IntKind.wrap .i64 (9 * p1))) 9 (fun r4 h5 =>
  LetI (IntKind.wrap .i64 r4) fun n6 =>
  Q n6 h5) h3))
noncomputable def F44 := Seal @B44
theorem F44_eq : @F44 = @B44 := Seal_eq _
noncomputable def E44 : Ent Try.prog := mkEnt tabOk 44 Try.f44 (Try.f44.body.getD .skip) Try.func44 (by kernel_rfl)
  [E150]
  ⟨[(3, [])], [], []⟩
  [.one (.i .i64), .one (.i .i64)] (by kernel_rfl)
  (fun x K h => F44 x.1 x.2.1 (fun r1 h' => K (.int .i64 r1) h') h)
  (fun x K h => B44 x.1 x.2.1 (fun r1 h' => K (.int .i64 r1) h') h)
  (by rw [F44_eq]) (fun x K h => by kernel_rfl)

/-- pantry/pte.Canonical -/
def B49 (p0 : Int) (Q : Bool → H → Prop) (h : H) : Prop :=
  Asr ((0 : Int) ≤ 38)
  (LetI (shR .i64 p0 38) fun n1 =>
  Br (n1 == 0)
  (Q true h)
  (Q (n1 == (-1)) h))
noncomputable def F49 := Seal @B49
theorem F49_eq : @F49 = @B49 := Seal_eq _
noncomputable def E49 : Ent Try.prog := mkEnt tabOk 49 Try.f49 (Try.f49.body.getD .skip) Try.func49 (by kernel_rfl)
  []
  ⟨[], [], []⟩
  [.one (.i .i64)] (by kernel_rfl)
  (fun x K h => F49 x.1 (fun r1 h' => K (.bool r1) h') h)
  (fun x K h => B49 x.1 (fun r1 h' => K (.bool r1) h') h)
  (by rw [F49_eq]) (fun x K h => by kernel_rfl)

/-- pantry/pantrylaw03.lives -/
def B42 (Q : Bool → H → Prop) (h : H) : Prop :=
  F41 3 3 (fun r1 h2 =>
  Br (r1 == 3075)
  (F44 517 1 (fun r3 h4 =>
  Br (r3 == 1)
  (F49 (-1) (fun r5 h6 =>
  Br r5
  (F49 274877906944 (fun r7 h8 =>
  Q (!r7) h8) h6)
  (Q false h6)) h4)
  (Q false h4)) h2)
  (Q false h2)) h
noncomputable def F42 := Seal @B42
theorem F42_eq : @F42 = @B42 := Seal_eq _
noncomputable def E42 : Ent Try.prog := mkEnt tabOk 42 Try.f42 (Try.f42.body.getD .skip) Try.func42 (by kernel_rfl)
  [E41, E44, E49]
  ⟨[], [], []⟩
  [] (by kernel_rfl)
  (fun x K h => F42  (fun r1 h' => K (.bool r1) h') h)
  (fun x K h => B42  (fun r1 h' => K (.bool r1) h') h)
  (by rw [F42_eq]) (fun x K h => by kernel_rfl)

/-- pantry/pantrylaw03.PteBack -/
def B3 (p0 : Int) (p1 : Int) (p2 : Int) (Q : Bool → H → Prop) (h : H) : Prop :=
  Asr ((256 : Int) ≠ 0)
  (Asr ((17592186044416 : Int) ≠ 0)
  (Nw h (zeroC Try.prog 25) 25 fun a1 h2 =>
  St h2 (a1.add 0) (.int .i64 (IntKind.wrap .i64 (Int.tmod p0 256))) fun h3 =>
  St h3 (a1.add 1) (.int .i64 (IntKind.wrap .i64 (Int.tmod p1 17592186044416))) fun h4 =>
  Ld (.i .i64) h4 (a1.add 0) fun x5 =>
  Ld (.i .i64) h4 (a1.add 1) fun x6 =>
  Ld (.i .i64) h4 (a1.add 0) fun x7 =>
  Ld (.i .i64) h4 (a1.add 1) fun x8 =>
  F41 x5 x6 (fun r9 h10 =>
  (hcell h10 (a1.add 0) = some (.int .i64 x7) ∧ hcell h10 (a1.add 1) = some (.int .i64 x8) ∧ True) ∧
  F40 r9 (fun r11 r12 h13 =>
  (hcell h13 (a1.add 0) = some (.int .i64 x7) ∧ hcell h13 (a1.add 1) = some (.int .i64 x8) ∧ True) ∧
  Br (!((r11 == x7) && ((r12 == x8) && true)))
  (Q false h13)
  (F40 p2 (fun r14 r15 h16 =>
  F41 r14 r15 (fun r17 h18 =>
  Br (r17 == (bAndNot .u64 (bAnd .u64 p2 18014398509481983) 768))
  (F42  (fun r19 h20 =>
  Q r19 h20) h18)
  (Q false h18)) h16) h13)) h10) h4))
noncomputable def F3 := Seal @B3
theorem F3_eq : @F3 = @B3 := Seal_eq _
noncomputable def E3 : Ent Try.prog := mkEnt tabOk 3 Try.f3 (Try.f3.body.getD .skip) Try.func3 (by kernel_rfl)
  [E41, E40, E42]
  ⟨[], [], [(2, (.q 0 (.q 3 (.m1 1 (.m1 2 (.q 4 .done))))))]⟩
  [.one (.i .u64), .one (.i .u64), .one (.i .u64)] (by kernel_rfl)
  (fun x K h => F3 x.1 x.2.1 x.2.2.1 (fun r1 h' => K (.bool r1) h') h)
  (fun x K h => B3 x.1 x.2.1 x.2.2.1 (fun r1 h' => K (.bool r1) h') h)
  (by rw [F3_eq]) (fun x K h => by kernel_rfl)

/-- pantry/pte.Split -/
def B43 (p0 : Int) (Q : Int → Int → H → Prop) (h : H) : Prop :=
  LetI (IntKind.wrap .u64 p0) fun n1 =>
  Asr ((0 : Int) ≤ 12)
  (F150 (shR .u64 n1 12) 27 (fun r2 h3 =>
  F150 n1 12 (fun r4 h5 =>
  LetI (IntKind.wrap .i64 r2) fun n6 =>
  LetI (IntKind.wrap .i64 r4) fun n7 =>
  Q n6 n7 h5) h3) h)
noncomputable def F43 := Seal @B43
theorem F43_eq : @F43 = @B43 := Seal_eq _
noncomputable def E43 : Ent Try.prog := mkEnt tabOk 43 Try.f43 (Try.f43.body.getD .skip) Try.func43 (by kernel_rfl)
  [E150]
  ⟨[], [], []⟩
  [.one (.i .i64)] (by kernel_rfl)
  (fun x K h => F43 x.1 (fun r1 r2 h' => K (.tuple #[(.int .i64 r1), (.int .i64 r2)]) h') h)
  (fun x K h => B43 x.1 (fun r1 r2 h' => K (.tuple #[(.int .i64 r1), (.int .i64 r2)]) h') h)
  (by rw [F43_eq]) (fun x K h => by kernel_rfl)

/-- pantry/pantrylaw03.PteNext -/
def B4 (p0 : Int) (Q : Bool → H → Prop) (h : H) : Prop :=
  Asr ((67108863 : Int) ≠ 0)
  (LetI (IntKind.wrap .i64 (Int.tmod p0 67108863)) fun n1 =>
  Asr ((0 : Int) ≤ 12)
  (F43 (IntKind.wrap .i64 ((shL .i64 n1 12) + 4095)) (fun r2 r3 h4 =>
  LetI r2 fun n5 =>
  LetI r3 fun n6 =>
  Asr ((0 : Int) ≤ 12)
  (F43 (IntKind.wrap .i64 ((shL .i64 n1 12) + 4096)) (fun r7 r8 h9 =>
  LetI r7 fun n10 =>
  LetI r8 fun n11 =>
  JoinM (σ := Unit) (fun J12 =>
  Br (n5 != n1)
  (Q false h9)
  (Br (n10 != (IntKind.wrap .i64 (n1 + 1)))
  (Q false h9)
  (Br (n6 != 4095)
  (Q false h9)
  (Br (n11 != 0)
  (Q false h9)
  (J12 (()) h9)))))
  (fun y13 h14 =>
  LoopM (σ := Int × Int × Unit) (fun self15 z16 h17 =>
  Br (decide (z16.2.1 < 3))
  (F44 n1 z16.2.1 (fun r18 h19 =>
  F44 (IntKind.wrap .i64 (n1 + 1)) z16.2.1 (fun r20 h21 =>
  LetI r18 fun n22 =>
  LetI r20 fun n23 =>
  Asr ((512 : Int) ≠ 0)
  (Br (n23 != (Int.tmod (IntKind.wrap .i64 (n22 + z16.1)) 512))
  (Q false h21)
  (Br (decide ((IntKind.wrap .i64 (n22 + z16.1)) < 512))
  (LetI (IntKind.wrap .i64 (z16.2.1 + 1)) fun n24 =>
  self15 (0, n24, ()) h21)
  (LetI (IntKind.wrap .i64 (z16.2.1 + 1)) fun n25 =>
  self15 (z16.1, n25, ()) h21)))) h19) h17)
  (F42  (fun r26 h27 =>
  Q r26 h27) h17)) (1, 0, ()) h14)) h4)) h))
noncomputable def F4 := Seal @B4
theorem F4_eq : @F4 = @B4 := Seal_eq _
noncomputable def E4 : Ent Try.prog := mkEnt tabOk 4 Try.f4 (Try.f4.body.getD .skip) Try.func4 (by kernel_rfl)
  [E43, E44, E42]
  ⟨[(6, [])], [(8, [(8, .one (.i .i64)), (9, .one (.i .i64))])], []⟩
  [.one (.i .u64)] (by kernel_rfl)
  (fun x K h => F4 x.1 (fun r1 h' => K (.bool r1) h') h)
  (fun x K h => B4 x.1 (fun r1 h' => K (.bool r1) h') h)
  (by rw [F4_eq]) (fun x K h => by kernel_rfl)

/-- pantry/pantryref03.low -/
def B151 (p0 : Int) (p1 : Int) (Q : Int → H → Prop) (h : H) : Prop :=
  LoopM (σ := Int × Int × Unit) (fun self1 z2 h3 =>
  Br (decide (z2.2.1 < p1))
  (Asr ((0 : Int) ≤ (IntKind.wrap .u64 z2.2.1))
  (Asr ((0 : Int) ≤ (IntKind.wrap .u64 z2.2.1))
  (LetI (IntKind.wrap .u64 (z2.1 + (shL .u64 (bAnd .u64 (shR .u64 p0 (IntKind.wrap .u64 z2.2.1)) 1) (IntKind.wrap .u64 z2.2.1)))) fun n4 =>
  LetI (IntKind.wrap .i64 (z2.2.1 + 1)) fun n5 =>
  self1 (n4, n5, ()) h3)))
  (LetI z2.1 fun n6 =>
  Q n6 h3)) (0, 0, ()) h
noncomputable def F151 := Seal @B151
theorem F151_eq : @F151 = @B151 := Seal_eq _
noncomputable def E151 : Ent Try.prog := mkEnt tabOk 151 Try.f151 (Try.f151.body.getD .skip) Try.func151 (by kernel_rfl)
  []
  ⟨[], [(3, [(5, .one (.i .u64)), (6, .one (.i .i64))])], []⟩
  [.one (.i .u64), .one (.i .i64)] (by kernel_rfl)
  (fun x K h => F151 x.1 x.2.1 (fun r1 h' => K (.int .u64 r1) h') h)
  (fun x K h => B151 x.1 x.2.1 (fun r1 h' => K (.int .u64 r1) h') h)
  (by rw [F151_eq]) (fun x K h => by kernel_rfl)

/-- pantry/pantryref03.Split -/
def B45 (p0 : Int) (Q : Int → Int → H → Prop) (h : H) : Prop :=
  Asr ((0 : Int) ≤ 12)
  (F151 (shR .u64 (IntKind.wrap .u64 p0) 12) 27 (fun r1 h2 =>
  F151 (IntKind.wrap .u64 p0) 12 (fun r3 h4 =>
  LetI (IntKind.wrap .i64 r1) fun n5 =>
  LetI (IntKind.wrap .i64 r3) fun n6 =>
  Q n5 n6 h4) h2) h)
noncomputable def F45 := Seal @B45
theorem F45_eq : @F45 = @B45 := Seal_eq _
noncomputable def E45 : Ent Try.prog := mkEnt tabOk 45 Try.f45 (Try.f45.body.getD .skip) Try.func45 (by kernel_rfl)
  [E151]
  ⟨[], [], []⟩
  [.one (.i .i64)] (by kernel_rfl)
  (fun x K h => F45 x.1 (fun r1 r2 h' => K (.tuple #[(.int .i64 r1), (.int .i64 r2)]) h') h)
  (fun x K h => B45 x.1 (fun r1 r2 h' => K (.tuple #[(.int .i64 r1), (.int .i64 r2)]) h') h)
  (by rw [F45_eq]) (fun x K h => by kernel_rfl)

/-- pantry/pantryref03.Index -/
def B46 (p0 : Int) (p1 : Int) (Q : Int → H → Prop) (h : H) : Prop :=
  JoinM (σ := Unit) (fun J1 =>
  Br (decide (p1 < 0))
  (Q 0 h)
  (Br (decide (p1 > 2))
  (Q 0 h)
  (J1 (()) h)))
  (fun y2 h3 =>
  Asr ((0 : Int) ≤ (IntKind.wrap .u64 (IntKind.wrap .i64 (9 * p1))))
  (F151 (shR .u64 (IntKind.wrap .u64 p0) (IntKind.wrap .u64 (IntKind.wrap .i64 (9 * p1)))) 9 (fun r4 h5 =>
  LetI (IntKind.wrap .i64 r4) fun n6 =>
  Q n6 h5) h3))
noncomputable def F46 := Seal @B46
theorem F46_eq : @F46 = @B46 := Seal_eq _
noncomputable def E46 : Ent Try.prog := mkEnt tabOk 46 Try.f46 (Try.f46.body.getD .skip) Try.func46 (by kernel_rfl)
  [E151]
  ⟨[(3, [])], [], []⟩
  [.one (.i .i64), .one (.i .i64)] (by kernel_rfl)
  (fun x K h => F46 x.1 x.2.1 (fun r1 h' => K (.int .i64 r1) h') h)
  (fun x K h => B46 x.1 x.2.1 (fun r1 h' => K (.int .i64 r1) h') h)
  (by rw [F46_eq]) (fun x K h => by kernel_rfl)

/-- pantry/pte.Join -/
def B47 (p0 : Int) (p1 : Int) (p2 : Int) (Q : Int → H → Prop) (h : H) : Prop :=
  LoopM (σ := Int × Int × Unit) (fun self1 z2 h3 =>
  Br (decide (z2.2.1 < 3))
  (IdxA 3 z2.2.1
  (LetI (List.getD [p0, p1, p2] (Int.toNat z2.2.1) 0) fun n4 =>
  Asr ((0 : Int) ≤ 9)
  (F150 (IntKind.wrap .u64 n4) 9 (fun r5 h6 =>
  LetI (bOr .u64 (shL .u64 z2.1 9) r5) fun n7 =>
  self1 (n7, (IntKind.wrap .i64 (z2.2.1 + 1)), ()) h6) h3)))
  (LetI (IntKind.wrap .i64 z2.1) fun n8 =>
  Q n8 h3)) (0, 0, ()) h
noncomputable def F47 := Seal @B47
theorem F47_eq : @F47 = @B47 := Seal_eq _
noncomputable def E47 : Ent Try.prog := mkEnt tabOk 47 Try.f47 (Try.f47.body.getD .skip) Try.func47 (by kernel_rfl)
  [E150]
  ⟨[], [(3, [(7, .one (.i .u64)), (14, .one (.i .i64))])], []⟩
  [.one (.i .i64), .one (.i .i64), .one (.i .i64)] (by kernel_rfl)
  (fun x K h => F47 x.1 x.2.1 x.2.2.1 (fun r1 h' => K (.int .i64 r1) h') h)
  (fun x K h => B47 x.1 x.2.1 x.2.2.1 (fun r1 h' => K (.int .i64 r1) h') h)
  (by rw [F47_eq]) (fun x K h => by kernel_rfl)

/-- pantry/pantryref03.Join -/
def B48 (p0 : Int) (p1 : Int) (p2 : Int) (Q : Int → H → Prop) (h : H) : Prop :=
  F151 (IntKind.wrap .u64 p0) 9 (fun r1 h2 =>
  F151 (IntKind.wrap .u64 p1) 9 (fun r3 h4 =>
  F151 (IntKind.wrap .u64 p2) 9 (fun r5 h6 =>
  LetI (IntKind.wrap .i64 (IntKind.wrap .u64 ((IntKind.wrap .u64 ((IntKind.wrap .u64 (r1 * 262144)) + (IntKind.wrap .u64 (r3 * 512)))) + r5))) fun n7 =>
  Q n7 h6) h4) h2) h
noncomputable def F48 := Seal @B48
theorem F48_eq : @F48 = @B48 := Seal_eq _
noncomputable def E48 : Ent Try.prog := mkEnt tabOk 48 Try.f48 (Try.f48.body.getD .skip) Try.func48 (by kernel_rfl)
  [E151]
  ⟨[], [], []⟩
  [.one (.i .i64), .one (.i .i64), .one (.i .i64)] (by kernel_rfl)
  (fun x K h => F48 x.1 x.2.1 x.2.2.1 (fun r1 h' => K (.int .i64 r1) h') h)
  (fun x K h => B48 x.1 x.2.1 x.2.2.1 (fun r1 h' => K (.int .i64 r1) h') h)
  (by rw [F48_eq]) (fun x K h => by kernel_rfl)

/-- pantry/pantryref03.Canonical -/
def B50 (p0 : Int) (Q : Bool → H → Prop) (h : H) : Prop :=
  LoopM (σ := Int × Unit) (fun self1 z2 h3 =>
  Br (decide (z2.1 < 64))
  (Asr ((0 : Int) ≤ (IntKind.wrap .u64 z2.1))
  (Asr ((0 : Int) ≤ 38)
  (Br ((bAnd .u64 (shR .u64 (IntKind.wrap .u64 p0) (IntKind.wrap .u64 z2.1)) 1) != (bAnd .u64 (shR .u64 (IntKind.wrap .u64 p0) 38) 1))
  (Q false h3)
  (LetI (IntKind.wrap .i64 (z2.1 + 1)) fun n4 =>
  self1 (n4, ()) h3))))
  (Q true h3)) (39, ()) h
noncomputable def F50 := Seal @B50
theorem F50_eq : @F50 = @B50 := Seal_eq _
noncomputable def E50 : Ent Try.prog := mkEnt tabOk 50 Try.f50 (Try.f50.body.getD .skip) Try.func50 (by kernel_rfl)
  []
  ⟨[], [(2, [(3, .one (.i .i64))])], []⟩
  [.one (.i .i64)] (by kernel_rfl)
  (fun x K h => F50 x.1 (fun r1 h' => K (.bool r1) h') h)
  (fun x K h => B50 x.1 (fun r1 h' => K (.bool r1) h') h)
  (by rw [F50_eq]) (fun x K h => by kernel_rfl)

/-- pantry/pantrylaw03.PteParts -/
def B5 (p0 : Int) (p1 : Int) (p2 : Int) (p3 : Int) (p4 : Int) (Q : Bool → H → Prop) (h : H) : Prop :=
  Nw h #[(.int .i64 p2), (.int .i64 p3), (.int .i64 p4)] 34 fun a1 h2 =>
  F43 p0 (fun r3 r4 h5 =>
  LetI r3 fun n6 =>
  LetI r4 fun n7 =>
  F45 p0 (fun r8 r9 h10 =>
  LetI r8 fun n11 =>
  LetI r9 fun n12 =>
  Br (n6 == n11)
  (Br (n7 == n12)
  (QC [.one (.i .i64)] h10 (fun K' h' => F44 p0 p1 (fun r14 h'' => K' (.int .i64 r14) h'') h') fun x13 =>
  QC [.one (.i .i64)] h10 (fun K' h' => F46 p0 p1 (fun r16 h'' => K' (.int .i64 r16) h'') h') fun x15 =>
  Br (x13.1 == x15.1)
  (IdxA 3 0
  (Ld (.i .i64) h10 ((a1.add (Int.toNat 0 * 1)).add 0) fun x17 =>
  IdxA 3 1
  (Ld (.i .i64) h10 ((a1.add (Int.toNat 1 * 1)).add 0) fun x18 =>
  IdxA 3 2
  (Ld (.i .i64) h10 ((a1.add (Int.toNat 2 * 1)).add 0) fun x19 =>
  IdxA 3 0
  (Ld (.i .i64) h10 ((a1.add (Int.toNat 0 * 1)).add 0) fun x20 =>
  IdxA 3 1
  (Ld (.i .i64) h10 ((a1.add (Int.toNat 1 * 1)).add 0) fun x21 =>
  IdxA 3 2
  (Ld (.i .i64) h10 ((a1.add (Int.toNat 2 * 1)).add 0) fun x22 =>
  F47 x17 x18 x19 (fun r23 h24 =>
  (hcell h24 ((a1.add (Int.toNat 2 * 1)).add 0) = some (.int .i64 x22)) ∧
  (hcell h24 ((a1.add (Int.toNat 1 * 1)).add 0) = some (.int .i64 x21)) ∧
  (hcell h24 ((a1.add (Int.toNat 0 * 1)).add 0) = some (.int .i64 x20)) ∧
  QC [.one (.i .i64)] h24 (fun K' h' => F48 x20 x21 x22 (fun r26 h'' => K' (.int .i64 r26) h'') h') fun x25 =>
  Br (r23 == x25.1)
  (QC [.one .b] h24 (fun K' h' => F49 p0 (fun r28 h'' => K' (.bool r28) h'') h') fun x27 =>
  QC [.one .b] h24 (fun K' h' => F50 p0 (fun r30 h'' => K' (.bool r30) h'') h') fun x29 =>
  Br (x27.1 == x29.1)
  (F42  (fun r31 h32 =>
  Q r31 h32) h24)
  (Q false h24))
  (Q false h24)) h10)))))))
  (Q false h10))
  (Q false h10))
  (Q false h10)) h5) h2
noncomputable def F5 := Seal @B5
theorem F5_eq : @F5 = @B5 := Seal_eq _
noncomputable def E5 : Ent Try.prog := mkEnt tabOk 5 Try.f5 (Try.f5.body.getD .skip) Try.func5 (by kernel_rfl)
  [E43, E45, E44, E46, E47, E48, E49, E50, E42]
  ⟨[], [], [(3, (.q 0 (.q 1 (.q 2 (.q 3 (.q 4 (.q 5 (.q 6 (.q 7 (.q 8 (.q 9 (.q 10 (.qc 11 [.one (.i .i64)] (.q 12 (.q 13 (.qc 14 [.one (.i .i64)] (.q 15 (.q 16 (.q 17 (.q 18 (.q 19 (.q 20 (.q 21 (.q 22 (.q 23 (.q 25 (.q 26 (.q 27 (.q 28 (.q 29 (.q 30 (.m1 24 (.qc 31 [.one (.i .i64)] (.q 32 (.q 33 (.q 34 (.q 35 (.qc 36 [.one .b] (.q 37 (.qc 38 [.one .b] (.q 39 (.q 40 (.q 41 (.m1 42 (.q 43 (.q 44 .done))))))))))))))))))))))))))))))))))))))))))))))]⟩
  [.one (.i .i64), .one (.i .i64), .agg [(.i .i64), (.i .i64), (.i .i64)]] (by kernel_rfl)
  (fun x K h => F5 x.1 x.2.1 x.2.2.1.1 x.2.2.1.2.1 x.2.2.1.2.2.1 (fun r1 h' => K (.bool r1) h') h)
  (fun x K h => B5 x.1 x.2.1 x.2.2.1.1 x.2.2.1.2.1 x.2.2.1.2.2.1 (fun r1 h' => K (.bool r1) h') h)
  (by rw [F5_eq]) (fun x K h => by kernel_rfl)

/-- pantry/pantrylaw03.PteJoins -/
def B6 (p0 : Int) (Q : Bool → H → Prop) (h : H) : Prop :=
  F43 p0 (fun r1 r2 h3 =>
  LetI r1 fun n4 =>
  LetI r2 fun n5 =>
  JoinM (σ := Unit) (fun J6 =>
  F44 n4 2 (fun r9 h10 =>
  F44 n4 1 (fun r11 h12 =>
  F44 n4 0 (fun r13 h14 =>
  F47 r9 r11 r13 (fun r15 h16 =>
  Br (r15 != n4)
  (Q false h16)
  (Br (decide (n4 < 0))
  (Q false h16)
  (Br (decide (n4 ≥ 134217728))
  (Q false h16)
  (Br (decide (n5 < 0))
  (Q false h16)
  (Br (decide (n5 ≥ 4096))
  (Q false h16)
  (J6 (()) h16)))))) h14) h12) h10) h3)
  (fun y7 h8 =>
  Asr ((0 : Int) ≤ 12)
  (LetI (IntKind.wrap .i64 ((shL .i64 n4 12) + n5)) fun n17 =>
  JoinM (σ := Int × Unit) (fun J18 =>
  Br (decide (n17 ≥ 274877906944))
  (LetI (IntKind.wrap .i64 (n17 - 549755813888)) fun n21 =>
  J18 (n21, ()) h8)
  (J18 (n17, ()) h8))
  (fun y19 h20 =>
  F49 p0 (fun r22 h23 =>
  Br (r22 == (y19.1 == p0))
  (F42  (fun r24 h25 =>
  Q r24 h25) h23)
  (Q false h23)) h20)))) h
noncomputable def F6 := Seal @B6
theorem F6_eq : @F6 = @B6 := Seal_eq _
noncomputable def E6 : Ent Try.prog := mkEnt tabOk 6 Try.f6 (Try.f6.body.getD .skip) Try.func6 (by kernel_rfl)
  [E43, E44, E47, E49, E42]
  ⟨[(4, []), (7, [(5, .one (.i .i64))])], [], []⟩
  [.one (.i .i64)] (by kernel_rfl)
  (fun x K h => F6 x.1 (fun r1 h' => K (.bool r1) h') h)
  (fun x K h => B6 x.1 (fun r1 h' => K (.bool r1) h') h)
  (by rw [F6_eq]) (fun x K h => by kernel_rfl)

/-- pantry/pantryref03.Encode -/
def B51 (p0 : Int) (p1 : Int) (Q : Int → H → Prop) (h : H) : Prop :=
  Nw h #[(.int .i64 p0), (.int .i64 p1)] 25 fun a1 h2 =>
  Ld (.i .i64) h2 ((a1.add 0).add 0) fun x3 =>
  QC [.one (.i .u64)] h2 (fun K' h' => F151 (IntKind.wrap .u64 x3) 8 (fun r5 h'' => K' (.int .u64 r5) h'') h') fun x4 =>
  Ld (.i .i64) h2 ((a1.add 1).add 0) fun x6 =>
  QC [.one (.i .u64)] h2 (fun K' h' => F151 (IntKind.wrap .u64 x6) 44 (fun r8 h'' => K' (.int .u64 r8) h'') h') fun x7 =>
  LetI (IntKind.wrap .u64 (x4.1 + (IntKind.wrap .u64 (x7.1 * 1024)))) fun n9 =>
  Q n9 h2
noncomputable def F51 := Seal @B51
theorem F51_eq : @F51 = @B51 := Seal_eq _
noncomputable def E51 : Ent Try.prog := mkEnt tabOk 51 Try.f51 (Try.f51.body.getD .skip) Try.func51 (by kernel_rfl)
  [E151]
  ⟨[], [], [(1, (.q 0 (.q 1 (.q 2 (.qc 3 [.one (.i .u64)] (.q 4 (.q 5 (.q 6 (.qc 7 [.one (.i .u64)] (.q 8 (.q 9 (.q 10 .done))))))))))))]⟩
  [.agg [(.i .i64), (.i .i64)]] (by kernel_rfl)
  (fun x K h => F51 x.1.1 x.1.2.1 (fun r1 h' => K (.int .u64 r1) h') h)
  (fun x K h => B51 x.1.1 x.1.2.1 (fun r1 h' => K (.int .u64 r1) h') h)
  (by rw [F51_eq]) (fun x K h => by kernel_rfl)

/-- pantry/pantryref03.Decode -/
def B52 (p0 : Int) (Q : Int → Int → H → Prop) (h : H) : Prop :=
  Nw h (zeroC Try.prog 25) 25 fun a1 h2 =>
  F151 p0 8 (fun r3 h4 =>
  Asr ((1024 : Int) ≠ 0)
  (F151 (IntKind.wrap .u64 (Int.tdiv p0 1024)) 44 (fun r5 h6 =>
  St h6 (a1.add 0) (.int .i64 (IntKind.wrap .i64 r3)) fun h7 =>
  St h7 (a1.add 1) (.int .i64 (IntKind.wrap .i64 r5)) fun h8 =>
  Ld (.i .i64) h8 (a1.add 0) fun x9 =>
  Ld (.i .i64) h8 (a1.add 1) fun x10 =>
  Q x9 x10 h8) h4)) h2
noncomputable def F52 := Seal @B52
theorem F52_eq : @F52 = @B52 := Seal_eq _
noncomputable def E52 : Ent Try.prog := mkEnt tabOk 52 Try.f52 (Try.f52.body.getD .skip) Try.func52 (by kernel_rfl)
  [E151]
  ⟨[], [], []⟩
  [.one (.i .u64)] (by kernel_rfl)
  (fun x K h => F52 x.1 (fun r1 r2 h' => K (.agg #[(.int .i64 r1), (.int .i64 r2)]) h') h)
  (fun x K h => B52 x.1 (fun r1 r2 h' => K (.agg #[(.int .i64 r1), (.int .i64 r2)]) h') h)
  (by rw [F52_eq]) (fun x K h => by kernel_rfl)

/-- pantry/pte.Kind -/
def B53 (p0 : Int) (p1 : Int) (Q : Int → H → Prop) (h : H) : Prop :=
  Nw h #[(.int .i64 p0), (.int .i64 p1)] 25 fun a1 h2 =>
  Ld (.i .i64) h2 ((a1.add 0).add 0) fun x3 =>
  Br ((bAnd .i64 x3 1) == 0)
  (Q 0 h2)
  (Ld (.i .i64) h2 ((a1.add 0).add 0) fun x4 =>
  Br ((bAnd .i64 x4 6) == 4)
  (Q 0 h2)
  (Ld (.i .i64) h2 ((a1.add 0).add 0) fun x5 =>
  Br ((bAnd .i64 x5 10) == 0)
  (Q 1 h2)
  (Q 2 h2)))
noncomputable def F53 := Seal @B53
theorem F53_eq : @F53 = @B53 := Seal_eq _
noncomputable def E53 : Ent Try.prog := mkEnt tabOk 53 Try.f53 (Try.f53.body.getD .skip) Try.func53 (by kernel_rfl)
  []
  ⟨[], [], []⟩
  [.agg [(.i .i64), (.i .i64)]] (by kernel_rfl)
  (fun x K h => F53 x.1.1 x.1.2.1 (fun r1 h' => K (.int .i64 r1) h') h)
  (fun x K h => B53 x.1.1 x.1.2.1 (fun r1 h' => K (.int .i64 r1) h') h)
  (by rw [F53_eq]) (fun x K h => by kernel_rfl)

/-- pantry/pantryref03.flags -/
def B152 (p0 : Int) (p1 : Int) (Q : Int → H → Prop) (h : H) : Prop :=
  Nw h #[(.int .i64 p0), (.int .i64 p1)] 25 fun a1 h2 =>
  Ld (.i .i64) h2 ((a1.add 0).add 0) fun x3 =>
  F151 (IntKind.wrap .u64 x3) 8 (fun r4 h5 =>
  LetI (IntKind.wrap .i64 r4) fun n6 =>
  Q n6 h5) h2
noncomputable def F152 := Seal @B152
theorem F152_eq : @F152 = @B152 := Seal_eq _
noncomputable def E152 : Ent Try.prog := mkEnt tabOk 152 Try.f152 (Try.f152.body.getD .skip) Try.func152 (by kernel_rfl)
  [E151]
  ⟨[], [], []⟩
  [.agg [(.i .i64), (.i .i64)]] (by kernel_rfl)
  (fun x K h => F152 x.1.1 x.1.2.1 (fun r1 h' => K (.int .i64 r1) h') h)
  (fun x K h => B152 x.1.1 x.1.2.1 (fun r1 h' => K (.int .i64 r1) h') h)
  (by rw [F152_eq]) (fun x K h => by kernel_rfl)

/-- pantry/pantryref03.is -/
def B153 (p0 : Int) (p1 : Int) (Q : Bool → H → Prop) (h : H) : Prop :=
  Asr ((p1 : Int) ≠ 0)
  (Asr ((2 : Int) ≠ 0)
  (Q ((Int.tmod (IntKind.wrap .i64 (Int.tdiv p0 p1)) 2) == 1) h))
noncomputable def F153 := Seal @B153
theorem F153_eq : @F153 = @B153 := Seal_eq _
noncomputable def E153 : Ent Try.prog := mkEnt tabOk 153 Try.f153 (Try.f153.body.getD .skip) Try.func153 (by kernel_rfl)
  []
  ⟨[], [], []⟩
  [.one (.i .i64), .one (.i .i64)] (by kernel_rfl)
  (fun x K h => F153 x.1 x.2.1 (fun r1 h' => K (.bool r1) h') h)
  (fun x K h => B153 x.1 x.2.1 (fun r1 h' => K (.bool r1) h') h)
  (by rw [F153_eq]) (fun x K h => by kernel_rfl)

/-- pantry/pantryref03.Kind -/
def B54 (p0 : Int) (p1 : Int) (Q : Int → H → Prop) (h : H) : Prop :=
  Nw h #[(.int .i64 p0), (.int .i64 p1)] 25 fun a1 h2 =>
  Ld (.i .i64) h2 (a1.add 0) fun x3 =>
  Ld (.i .i64) h2 (a1.add 1) fun x4 =>
  F152 x3 x4 (fun r5 h6 =>
  LetI r5 fun n7 =>
  F153 n7 1 (fun r8 h9 =>
  Br (!r8)
  (Q 0 h9)
  (F153 n7 4 (fun r10 h11 =>
  Br r10
  (F153 n7 2 (fun r12 h13 =>
  Br (!r12)
  (Q 0 h13)
  (F153 n7 2 (fun r14 h15 =>
  Br r14
  (Q 2 h15)
  (F153 n7 8 (fun r16 h17 =>
  Br r16
  (Q 2 h17)
  (Q 1 h17)) h15)) h13)) h11)
  (F153 n7 2 (fun r18 h19 =>
  Br r18
  (Q 2 h19)
  (F153 n7 8 (fun r20 h21 =>
  Br r20
  (Q 2 h21)
  (Q 1 h21)) h19)) h11)) h9)) h6) h2
noncomputable def F54 := Seal @B54
theorem F54_eq : @F54 = @B54 := Seal_eq _
noncomputable def E54 : Ent Try.prog := mkEnt tabOk 54 Try.f54 (Try.f54.body.getD .skip) Try.func54 (by kernel_rfl)
  [E152, E153]
  ⟨[], [], []⟩
  [.agg [(.i .i64), (.i .i64)]] (by kernel_rfl)
  (fun x K h => F54 x.1.1 x.1.2.1 (fun r1 h' => K (.int .i64 r1) h') h)
  (fun x K h => B54 x.1.1 x.1.2.1 (fun r1 h' => K (.int .i64 r1) h') h)
  (by rw [F54_eq]) (fun x K h => by kernel_rfl)

/-- pantry/pantrylaw03.PteCodes -/
def B7 (p0 : Int) (p1 : Int) (p2 : Int) (Q : Bool → H → Prop) (h : H) : Prop :=
  Nw h #[(.int .i64 p0), (.int .i64 p1)] 25 fun a1 h2 =>
  F40 p2 (fun r3 r4 h5 =>
  Nw h5 (zeroC Try.prog 25) 25 fun a6 h7 =>
  St h7 (a6.add 0) (.int .i64 r3) fun h8 =>
  St h8 (a6.add 1) (.int .i64 r4) fun h9 =>
  Ld (.i .i64) h9 (a1.add 0) fun x10 =>
  Ld (.i .i64) h9 (a1.add 1) fun x11 =>
  Ld (.i .i64) h9 (a1.add 0) fun x12 =>
  Ld (.i .i64) h9 (a1.add 1) fun x13 =>
  F41 x10 x11 (fun r14 h15 =>
  (hcell h15 (a1.add 0) = some (.int .i64 x12) ∧ hcell h15 (a1.add 1) = some (.int .i64 x13) ∧ True) ∧
  F51 x12 x13 (fun r16 h17 =>
  Br (r14 == r16)
  (Ld (.i .i64) h17 (a6.add 0) fun x18 =>
  Ld (.i .i64) h17 (a6.add 1) fun x19 =>
  F52 p2 (fun r20 r21 h22 =>
  (hcell h22 (a6.add 0) = some (.int .i64 x18) ∧ hcell h22 (a6.add 1) = some (.int .i64 x19) ∧ True) ∧
  Br ((x18 == r20) && ((x19 == r21) && true))
  (Ld (.i .i64) h22 (a1.add 0) fun x23 =>
  Ld (.i .i64) h22 (a1.add 1) fun x24 =>
  Ld (.i .i64) h22 (a1.add 0) fun x25 =>
  Ld (.i .i64) h22 (a1.add 1) fun x26 =>
  F53 x23 x24 (fun r27 h28 =>
  (hcell h28 (a1.add 0) = some (.int .i64 x25) ∧ hcell h28 (a1.add 1) = some (.int .i64 x26) ∧ True) ∧
  F54 x25 x26 (fun r29 h30 =>
  Br (r27 == r29)
  (Ld (.i .i64) h30 (a6.add 0) fun x31 =>
  Ld (.i .i64) h30 (a6.add 1) fun x32 =>
  Ld (.i .i64) h30 (a6.add 0) fun x33 =>
  Ld (.i .i64) h30 (a6.add 1) fun x34 =>
  F53 x31 x32 (fun r35 h36 =>
  (hcell h36 (a6.add 0) = some (.int .i64 x33) ∧ hcell h36 (a6.add 1) = some (.int .i64 x34) ∧ True) ∧
  F54 x33 x34 (fun r37 h38 =>
  Br (r35 == r37)
  (F42  (fun r39 h40 =>
  Q r39 h40) h38)
  (Q false h38)) h36) h30)
  (Q false h30)) h28) h22)
  (Q false h22)) h17)
  (Q false h17)) h15) h9) h2
noncomputable def F7 := Seal @B7
theorem F7_eq : @F7 = @B7 := Seal_eq _
noncomputable def E7 : Ent Try.prog := mkEnt tabOk 7 Try.f7 (Try.f7.body.getD .skip) Try.func7 (by kernel_rfl)
  [E40, E41, E51, E52, E53, E54, E42]
  ⟨[], [], [(2, (.q 0 (.q 2 (.m1 1 (.m1 3 (.q 4 (.q 5 (.q 6 (.q 7 (.m1 8 (.q 9 (.q 10 (.q 11 (.q 12 (.q 14 (.m1 13 (.m1 15 (.q 16 (.q 17 (.q 18 (.q 19 (.q 21 (.m1 20 (.m1 22 (.q 23 (.q 24 (.q 25 (.m1 26 (.q 27 (.q 28 .done))))))))))))))))))))))))))))))]⟩
  [.agg [(.i .i64), (.i .i64)], .one (.i .u64)] (by kernel_rfl)
  (fun x K h => F7 x.1.1 x.1.2.1 x.2.1 (fun r1 h' => K (.bool r1) h') h)
  (fun x K h => B7 x.1.1 x.1.2.1 x.2.1 (fun r1 h' => K (.bool r1) h') h)
  (by rw [F7_eq]) (fun x K h => by kernel_rfl)

/-- pantry/pte.May -/
def B55 (p0 : Int) (p1 : Int) (p2 : Int) (p3 : Bool) (Q : Bool → H → Prop) (h : H) : Prop :=
  Nw h #[(.int .i64 p0), (.int .i64 p1)] 25 fun a1 h2 =>
  JoinM (σ := Int × Unit) (fun J3 =>
  Br (p2 == 1)
  (J3 (2, ()) h2)
  (Br (p2 == 2)
  (J3 (4, ()) h2)
  (Br (p2 == 4)
  (J3 (8, ()) h2)
  (J3 (0, ()) h2))))
  (fun y4 h5 =>
  Ld (.i .i64) h5 (a1.add 0) fun x6 =>
  Ld (.i .i64) h5 (a1.add 1) fun x7 =>
  F53 x6 x7 (fun r8 h9 =>
  Br (r8 == 2)
  (Br (decide (y4.1 > 0))
  (Ld (.i .i64) h9 ((a1.add 0).add 0) fun x10 =>
  Br (decide ((bAnd .i64 x10 y4.1) > 0))
  (Ld (.i .i64) h9 ((a1.add 0).add 0) fun x11 =>
  Q ((decide ((bAnd .i64 x11 16) > 0)) == p3) h9)
  (Q false h9))
  (Q false h9))
  (Q false h9)) h5)
noncomputable def F55 := Seal @B55
theorem F55_eq : @F55 = @B55 := Seal_eq _
noncomputable def E55 : Ent Try.prog := mkEnt tabOk 55 Try.f55 (Try.f55.body.getD .skip) Try.func55 (by kernel_rfl)
  [E53]
  ⟨[(9, [(7, .one (.i .i64))])], [], []⟩
  [.agg [(.i .i64), (.i .i64)], .one (.i .i64), .one .b] (by kernel_rfl)
  (fun x K h => F55 x.1.1 x.1.2.1 x.2.1 x.2.2.1 (fun r1 h' => K (.bool r1) h') h)
  (fun x K h => B55 x.1.1 x.1.2.1 x.2.1 x.2.2.1 (fun r1 h' => K (.bool r1) h') h)
  (by rw [F55_eq]) (fun x K h => by kernel_rfl)

/-- pantry/pte.gather -/
def B154 (p0 : Sl) (Q : Int → H → Prop) (h : H) : Prop :=
  LoopM (σ := Int × Int × Unit) (fun self1 z2 h3 =>
  Br (decide (z2.2.1 < ((p0.len : Nat) : Int)))
  (IdxS p0.a p0.len z2.2.1 fun a4 =>
  Ld .b h3 ((a4.add (Int.toNat z2.2.1 * 2)).add 0) fun x5 =>
  Ld (.i .i64) h3 ((a4.add (Int.toNat z2.2.1 * 2)).add 1) fun x6 =>
  Nw h3 (zeroC Try.prog 201) 201 fun a7 h8 =>
  St h8 (a7.add 0) (.bool x5) fun h9 =>
  St h9 (a7.add 1) (.int .i64 x6) fun h10 =>
  Ld .b h10 ((a7.add 0).add 0) fun x11 =>
  Br x11
  (Ld (.i .i64) h10 ((a7.add 1).add 0) fun x12 =>
  LetI (bOr .i64 z2.1 x12) fun n13 =>
  self1 (n13, (IntKind.wrap .i64 (z2.2.1 + 1)), ()) h10)
  (self1 (z2.1, (IntKind.wrap .i64 (z2.2.1 + 1)), ()) h10))
  (LetI z2.1 fun n14 =>
  Q n14 h3)) (0, 0, ()) h
noncomputable def F154 := Seal @B154
theorem F154_eq : @F154 = @B154 := Seal_eq _
noncomputable def E154 : Ent Try.prog := mkEnt tabOk 154 Try.f154 (Try.f154.body.getD .skip) Try.func154 (by kernel_rfl)
  []
  ⟨[], [(3, [(3, .one (.i .i64)), (8, .one (.i .i64))])], []⟩
  [.one .s] (by kernel_rfl)
  (fun x K h => F154 x.1 (fun r1 h' => K (.int .i64 r1) h') h)
  (fun x K h => B154 x.1 (fun r1 h' => K (.int .i64 r1) h') h)
  (by rw [F154_eq]) (fun x K h => by kernel_rfl)

/-- pantry/pte.Prot -/
def B56 (p0 : Int) (p1 : Int) (Q : Int → H → Prop) (h : H) : Prop :=
  Nw h #[(.int .i64 p0), (.int .i64 p1)] 25 fun a1 h2 =>
  Ld (.i .i64) h2 (a1.add 0) fun x3 =>
  Ld (.i .i64) h2 (a1.add 1) fun x4 =>
  F53 x3 x4 (fun r5 h6 =>
  Br (r5 != 2)
  (Q 0 h6)
  (Ld (.i .i64) h6 ((a1.add 0).add 0) fun x7 =>
  Ld (.i .i64) h6 ((a1.add 0).add 0) fun x8 =>
  Ld (.i .i64) h6 ((a1.add 0).add 0) fun x9 =>
  Nw h6 #[(.bool (decide ((bAnd .i64 x7 2) > 0))), (.int .i64 1), (.bool (decide ((bAnd .i64 x8 4) > 0))), (.int .i64 2), (.bool (decide ((bAnd .i64 x9 8) > 0))), (.int .i64 4)] 201 fun a10 h11 =>
  F154 ⟨(some a10), 3, 3⟩ (fun r12 h13 =>
  LetI r12 fun n14 =>
  Q n14 h13) h11)) h2
noncomputable def F56 := Seal @B56
theorem F56_eq : @F56 = @B56 := Seal_eq _
noncomputable def E56 : Ent Try.prog := mkEnt tabOk 56 Try.f56 (Try.f56.body.getD .skip) Try.func56 (by kernel_rfl)
  [E53, E154]
  ⟨[], [], []⟩
  [.agg [(.i .i64), (.i .i64)]] (by kernel_rfl)
  (fun x K h => F56 x.1.1 x.1.2.1 (fun r1 h' => K (.int .i64 r1) h') h)
  (fun x K h => B56 x.1.1 x.1.2.1 (fun r1 h' => K (.int .i64 r1) h') h)
  (by rw [F56_eq]) (fun x K h => by kernel_rfl)

/-- pantry/pantrylaw03.PteKinds -/
def B8 (p0 : Int) (p1 : Int) (p2 : Int) (p3 : Bool) (Q : Bool → H → Prop) (h : H) : Prop :=
  Nw h #[(.int .i64 p0), (.int .i64 p1)] 25 fun a1 h2 =>
  Ld (.i .i64) h2 (a1.add 0) fun x3 =>
  Ld (.i .i64) h2 (a1.add 1) fun x4 =>
  F53 x3 x4 (fun r5 h6 =>
  LetI r5 fun n7 =>
  Ld (.i .i64) h6 ((a1.add 0).add 0) fun x8 =>
  LetI x8 fun n9 =>
  JoinM (σ := Unit) (fun J10 =>
  Br ((bAnd .i64 n9 1) == 0)
  (Br (n7 != 0)
  (Q false h6)
  (Br (decide ((bAnd .i64 n9 1) > 0))
  (Br ((bAnd .i64 n9 14) == 0)
  (Br (n7 != 1)
  (Q false h6)
  (Br ((bAnd .i64 n9 6) == 4)
  (Br (n7 != 0)
  (Q false h6)
  (J10 (()) h6))
  (J10 (()) h6)))
  (Br ((bAnd .i64 n9 6) == 4)
  (Br (n7 != 0)
  (Q false h6)
  (J10 (()) h6))
  (J10 (()) h6)))
  (Br ((bAnd .i64 n9 6) == 4)
  (Br (n7 != 0)
  (Q false h6)
  (J10 (()) h6))
  (J10 (()) h6))))
  (Br (decide ((bAnd .i64 n9 1) > 0))
  (Br ((bAnd .i64 n9 14) == 0)
  (Br (n7 != 1)
  (Q false h6)
  (Br ((bAnd .i64 n9 6) == 4)
  (Br (n7 != 0)
  (Q false h6)
  (J10 (()) h6))
  (J10 (()) h6)))
  (Br ((bAnd .i64 n9 6) == 4)
  (Br (n7 != 0)
  (Q false h6)
  (J10 (()) h6))
  (J10 (()) h6)))
  (Br ((bAnd .i64 n9 6) == 4)
  (Br (n7 != 0)
  (Q false h6)
  (J10 (()) h6))
  (J10 (()) h6))))
  (fun y11 h12 =>
  Br (decide (n7 ≥ 0))
  (Br (decide (n7 ≤ 2))
  (Br (n7 == 2)
  (F42  (fun r13 h14 =>
  Q r13 h14) h12)
  (Ld (.i .i64) h12 (a1.add 0) fun x15 =>
  Ld (.i .i64) h12 (a1.add 1) fun x16 =>
  F55 x15 x16 p2 p3 (fun r17 h18 =>
  Br (!r17)
  (Ld (.i .i64) h18 (a1.add 0) fun x19 =>
  Ld (.i .i64) h18 (a1.add 1) fun x20 =>
  F56 x19 x20 (fun r21 h22 =>
  Br (r21 == 0)
  (F42  (fun r23 h24 =>
  Q r23 h24) h22)
  (Q false h22)) h18)
  (Q false h18)) h12))
  (Q false h12))
  (Q false h12))) h2
noncomputable def F8 := Seal @B8
theorem F8_eq : @F8 = @B8 := Seal_eq _
noncomputable def E8 : Ent Try.prog := mkEnt tabOk 8 Try.f8 (Try.f8.body.getD .skip) Try.func8 (by kernel_rfl)
  [E53, E42, E55, E56]
  ⟨[(5, [])], [], []⟩
  [.agg [(.i .i64), (.i .i64)], .one (.i .i64), .one .b] (by kernel_rfl)
  (fun x K h => F8 x.1.1 x.1.2.1 x.2.1 x.2.2.1 (fun r1 h' => K (.bool r1) h') h)
  (fun x K h => B8 x.1.1 x.1.2.1 x.2.1 x.2.2.1 (fun r1 h' => K (.bool r1) h') h)
  (by rw [F8_eq]) (fun x K h => by kernel_rfl)

/-- pantry/pantryref03.May -/
def B57 (p0 : Int) (p1 : Int) (p2 : Int) (p3 : Bool) (Q : Bool → H → Prop) (h : H) : Prop :=
  Nw h #[(.int .i64 p0), (.int .i64 p1)] 25 fun a1 h2 =>
  Ld (.i .i64) h2 (a1.add 0) fun x3 =>
  Ld (.i .i64) h2 (a1.add 1) fun x4 =>
  F152 x3 x4 (fun r5 h6 =>
  LetI r5 fun n7 =>
  JoinM (σ := Unit) (fun J8 =>
  Ld (.i .i64) h6 (a1.add 0) fun x11 =>
  Ld (.i .i64) h6 (a1.add 1) fun x12 =>
  F54 x11 x12 (fun r13 h14 =>
  Br (r13 != 2)
  (Q false h14)
  (F153 n7 16 (fun r15 h16 =>
  Br (!(r15 == p3))
  (Q false h16)
  (J8 (()) h16)) h14)) h6)
  (fun y9 h10 =>
  Br (p2 == 1)
  (F153 n7 2 (fun r17 h18 =>
  Q r17 h18) h10)
  (Br (p2 == 2)
  (F153 n7 4 (fun r19 h20 =>
  Q r19 h20) h10)
  (Br (p2 == 4)
  (F153 n7 8 (fun r21 h22 =>
  Q r21 h22) h10)
  (Q false h10))))) h2
noncomputable def F57 := Seal @B57
theorem F57_eq : @F57 = @B57 := Seal_eq _
noncomputable def E57 : Ent Try.prog := mkEnt tabOk 57 Try.f57 (Try.f57.body.getD .skip) Try.func57 (by kernel_rfl)
  [E152, E54, E153]
  ⟨[(4, [])], [], []⟩
  [.agg [(.i .i64), (.i .i64)], .one (.i .i64), .one .b] (by kernel_rfl)
  (fun x K h => F57 x.1.1 x.1.2.1 x.2.1 x.2.2.1 (fun r1 h' => K (.bool r1) h') h)
  (fun x K h => B57 x.1.1 x.1.2.1 x.2.1 x.2.2.1 (fun r1 h' => K (.bool r1) h') h)
  (by rw [F57_eq]) (fun x K h => by kernel_rfl)

/-- pantry/pte.Flags -/
def B58 (p0 : Int) (p1 : Bool) (Q : Int → H → Prop) (h : H) : Prop :=
  Br ((bAnd .i64 p0 7) == 0)
  (Q 0 h)
  (Nw h #[(.bool true), (.int .i64 1), (.bool (decide ((bAnd .i64 p0 3) > 0))), (.int .i64 2), (.bool (decide ((bAnd .i64 p0 2) > 0))), (.int .i64 4), (.bool (decide ((bAnd .i64 p0 4) > 0))), (.int .i64 8), (.bool p1), (.int .i64 16)] 201 fun a1 h2 =>
  F154 ⟨(some a1), 5, 5⟩ (fun r3 h4 =>
  LetI r3 fun n5 =>
  Q n5 h4) h2)
noncomputable def F58 := Seal @B58
theorem F58_eq : @F58 = @B58 := Seal_eq _
noncomputable def E58 : Ent Try.prog := mkEnt tabOk 58 Try.f58 (Try.f58.body.getD .skip) Try.func58 (by kernel_rfl)
  [E154]
  ⟨[], [], []⟩
  [.one (.i .i64), .one .b] (by kernel_rfl)
  (fun x K h => F58 x.1 x.2.1 (fun r1 h' => K (.int .i64 r1) h') h)
  (fun x K h => B58 x.1 x.2.1 (fun r1 h' => K (.int .i64 r1) h') h)
  (by rw [F58_eq]) (fun x K h => by kernel_rfl)

/-- pantry/pantryref03.Flags -/
def B59 (p0 : Int) (p1 : Bool) (Q : Int → H → Prop) (h : H) : Prop :=
  F151 (IntKind.wrap .u64 p0) 3 (fun r1 h2 =>
  LetI (IntKind.wrap .i64 r1) fun n3 =>
  Br (n3 == 0)
  (Q 0 h2)
  (JoinM (σ := Int × Unit) (fun J4 =>
  F153 n3 1 (fun r7 h8 =>
  Br r7
  (LetI (IntKind.wrap .i64 (1 + 2)) fun n9 =>
  J4 (n9, ()) h8)
  (F153 n3 2 (fun r10 h11 =>
  Br r10
  (LetI (IntKind.wrap .i64 (1 + 2)) fun n12 =>
  J4 (n12, ()) h11)
  (J4 (1, ()) h11)) h8)) h2)
  (fun y5 h6 =>
  JoinM (σ := Int × Unit) (fun J13 =>
  F153 n3 2 (fun r16 h17 =>
  Br r16
  (LetI (IntKind.wrap .i64 (y5.1 + 4)) fun n18 =>
  J13 (n18, ()) h17)
  (J13 (y5.1, ()) h17)) h6)
  (fun y14 h15 =>
  JoinM (σ := Int × Unit) (fun J19 =>
  F153 n3 4 (fun r22 h23 =>
  Br r22
  (LetI (IntKind.wrap .i64 (y14.1 + 8)) fun n24 =>
  J19 (n24, ()) h23)
  (J19 (y14.1, ()) h23)) h15)
  (fun y20 h21 =>
  Br p1
  (LetI (IntKind.wrap .i64 (y20.1 + 16)) fun n25 =>
  LetI n25 fun n26 =>
  Q n26 h21)
  (LetI y20.1 fun n27 =>
  Q n27 h21)))))) h
noncomputable def F59 := Seal @B59
theorem F59_eq : @F59 = @B59 := Seal_eq _
noncomputable def E59 : Ent Try.prog := mkEnt tabOk 59 Try.f59 (Try.f59.body.getD .skip) Try.func59 (by kernel_rfl)
  [E151, E153]
  ⟨[(7, [(6, .one (.i .i64))]), (9, [(6, .one (.i .i64))]), (11, [(6, .one (.i .i64))])], [], []⟩
  [.one (.i .i64), .one .b] (by kernel_rfl)
  (fun x K h => F59 x.1 x.2.1 (fun r1 h' => K (.int .i64 r1) h') h)
  (fun x K h => B59 x.1 x.2.1 (fun r1 h' => K (.int .i64 r1) h') h)
  (by rw [F59_eq]) (fun x K h => by kernel_rfl)

/-- pantry/pantryref03.Prot -/
def B60 (p0 : Int) (p1 : Int) (Q : Int → H → Prop) (h : H) : Prop :=
  Nw h #[(.int .i64 p0), (.int .i64 p1)] 25 fun a1 h2 =>
  Ld (.i .i64) h2 (a1.add 0) fun x3 =>
  Ld (.i .i64) h2 (a1.add 1) fun x4 =>
  F152 x3 x4 (fun r5 h6 =>
  LetI r5 fun n7 =>
  Ld (.i .i64) h6 (a1.add 0) fun x8 =>
  Ld (.i .i64) h6 (a1.add 1) fun x9 =>
  F54 x8 x9 (fun r10 h11 =>
  Br (r10 != 2)
  (Q 0 h11)
  (JoinM (σ := Int × Unit) (fun J12 =>
  F153 n7 2 (fun r15 h16 =>
  Br r15
  (LetI (IntKind.wrap .i64 (0 + 1)) fun n17 =>
  J12 (n17, ()) h16)
  (J12 (0, ()) h16)) h11)
  (fun y13 h14 =>
  JoinM (σ := Int × Unit) (fun J18 =>
  F153 n7 4 (fun r21 h22 =>
  Br r21
  (LetI (IntKind.wrap .i64 (y13.1 + 2)) fun n23 =>
  J18 (n23, ()) h22)
  (J18 (y13.1, ()) h22)) h14)
  (fun y19 h20 =>
  F153 n7 8 (fun r24 h25 =>
  Br r24
  (LetI (IntKind.wrap .i64 (y19.1 + 4)) fun n26 =>
  LetI n26 fun n27 =>
  Q n27 h25)
  (LetI y19.1 fun n28 =>
  Q n28 h25)) h20)))) h6) h2
noncomputable def F60 := Seal @B60
theorem F60_eq : @F60 = @B60 := Seal_eq _
noncomputable def E60 : Ent Try.prog := mkEnt tabOk 60 Try.f60 (Try.f60.body.getD .skip) Try.func60 (by kernel_rfl)
  [E152, E54, E153]
  ⟨[(6, [(4, .one (.i .i64))]), (8, [(4, .one (.i .i64))])], [], []⟩
  [.agg [(.i .i64), (.i .i64)]] (by kernel_rfl)
  (fun x K h => F60 x.1.1 x.1.2.1 (fun r1 h' => K (.int .i64 r1) h') h)
  (fun x K h => B60 x.1.1 x.1.2.1 (fun r1 h' => K (.int .i64 r1) h') h)
  (by rw [F60_eq]) (fun x K h => by kernel_rfl)

/-- pantry/pantrylaw03.PteRights -/
def B9 (p0 : Int) (p1 : Int) (p2 : Int) (p3 : Bool) (Q : Bool → H → Prop) (h : H) : Prop :=
  Nw h #[(.int .i64 p0), (.int .i64 p1)] 25 fun a1 h2 =>
  Ld (.i .i64) h2 (a1.add 0) fun x3 =>
  Ld (.i .i64) h2 (a1.add 1) fun x4 =>
  Ld (.i .i64) h2 (a1.add 0) fun x5 =>
  Ld (.i .i64) h2 (a1.add 1) fun x6 =>
  F55 x3 x4 p2 p3 (fun r7 h8 =>
  (hcell h8 (a1.add 0) = some (.int .i64 x5) ∧ hcell h8 (a1.add 1) = some (.int .i64 x6) ∧ True) ∧
  F57 x5 x6 p2 p3 (fun r9 h10 =>
  Br (r7 == r9)
  (F58 p2 p3 (fun r11 h12 =>
  QC [.one (.i .i64)] h12 (fun K' h' => F59 p2 p3 (fun r14 h'' => K' (.int .i64 r14) h'') h') fun x13 =>
  Br (r11 == x13.1)
  (Ld (.i .i64) h12 (a1.add 0) fun x15 =>
  Ld (.i .i64) h12 (a1.add 1) fun x16 =>
  Ld (.i .i64) h12 (a1.add 0) fun x17 =>
  Ld (.i .i64) h12 (a1.add 1) fun x18 =>
  F56 x15 x16 (fun r19 h20 =>
  (hcell h20 (a1.add 0) = some (.int .i64 x17) ∧ hcell h20 (a1.add 1) = some (.int .i64 x18) ∧ True) ∧
  F60 x17 x18 (fun r21 h22 =>
  Br (r19 == r21)
  (F42  (fun r23 h24 =>
  Q r23 h24) h22)
  (Q false h22)) h20) h12)
  (Q false h12)) h10)
  (Q false h10)) h8) h2
noncomputable def F9 := Seal @B9
theorem F9_eq : @F9 = @B9 := Seal_eq _
noncomputable def E9 : Ent Try.prog := mkEnt tabOk 9 Try.f9 (Try.f9.body.getD .skip) Try.func9 (by kernel_rfl)
  [E55, E57, E58, E59, E56, E60, E42]
  ⟨[], [], [(1, (.q 0 (.q 1 (.q 2 (.q 4 (.q 5 (.q 6 (.m1 3 (.m1 7 (.q 8 (.q 9 (.q 10 (.q 11 (.q 13 (.q 14 (.m1 12 (.qc 15 [.one (.i .i64)] (.q 16 (.q 17 (.q 18 (.q 19 (.q 21 (.m1 20 (.m1 22 (.q 23 (.q 24 (.q 25 (.m1 26 (.q 27 (.q 28 .done))))))))))))))))))))))))))))))]⟩
  [.agg [(.i .i64), (.i .i64)], .one (.i .i64), .one .b] (by kernel_rfl)
  (fun x K h => F9 x.1.1 x.1.2.1 x.2.1 x.2.2.1 (fun r1 h' => K (.bool r1) h') h)
  (fun x K h => B9 x.1.1 x.1.2.1 x.2.1 x.2.2.1 (fun r1 h' => K (.bool r1) h') h)
  (by rw [F9_eq]) (fun x K h => by kernel_rfl)

/-- pantry/pantrylaw03.PteGrants -/
def B10 (p0 : Int) (p1 : Bool) (Q : Bool → H → Prop) (h : H) : Prop :=
  Asr ((8 : Int) ≠ 0)
  (LetI (IntKind.wrap .i64 (Int.tmod p0 8)) fun n1 =>
  F58 n1 p1 (fun r2 h3 =>
  Nw h3 (zeroC Try.prog 25) 25 fun a4 h5 =>
  St h5 (a4.add 0) (.int .i64 r2) fun h6 =>
  St h6 (a4.add 1) (.int .i64 1) fun h7 =>
  Br (n1 == 0)
  (Ld (.i .i64) h7 (a4.add 0) fun x8 =>
  Ld (.i .i64) h7 (a4.add 1) fun x9 =>
  F53 x8 x9 (fun r10 h11 =>
  Br (r10 == 0)
  (F42  (fun r12 h13 =>
  Q r12 h13) h11)
  (Q false h11)) h7)
  (LetI n1 fun n14 =>
  JoinM (σ := Int × Unit) (fun J15 =>
  Br (decide ((bAnd .i64 n1 2) > 0))
  (LetI (bOr .i64 n14 1) fun n18 =>
  J15 (n18, ()) h7)
  (J15 (n14, ()) h7))
  (fun y16 h17 =>
  Nw h17 #[(.int .i64 1), (.int .i64 2), (.int .i64 4)] 3 fun a19 h20 =>
  LoopM (σ := Int × Unit) (fun self21 z22 h23 =>
  Br (decide (z22.1 < 3))
  (IdxS (some a19) 3 z22.1 fun a24 =>
  Ld (.i .i64) h23 ((a24.add (Int.toNat z22.1 * 1)).add 0) fun x25 =>
  LetI x25 fun n26 =>
  Ld (.i .i64) h23 (a4.add 0) fun x27 =>
  Ld (.i .i64) h23 (a4.add 1) fun x28 =>
  F55 x27 x28 n26 p1 (fun r29 h30 =>
  Br (!(r29 == (decide ((bAnd .i64 y16.1 n26) > 0))))
  (Q false h30)
  (Ld (.i .i64) h30 (a4.add 0) fun x31 =>
  Ld (.i .i64) h30 (a4.add 1) fun x32 =>
  F55 x31 x32 n26 (!p1) (fun r33 h34 =>
  Br r33
  (Q false h34)
  (self21 ((IntKind.wrap .i64 (z22.1 + 1)), ()) h34)) h30)) h23)
  (Ld (.i .i64) h23 (a4.add 0) fun x35 =>
  Ld (.i .i64) h23 (a4.add 1) fun x36 =>
  F53 x35 x36 (fun r37 h38 =>
  Br (r37 == 2)
  (Ld (.i .i64) h38 (a4.add 0) fun x39 =>
  Ld (.i .i64) h38 (a4.add 1) fun x40 =>
  F56 x39 x40 (fun r41 h42 =>
  Br (r41 == y16.1)
  (F42  (fun r43 h44 =>
  Q r43 h44) h42)
  (Q false h42)) h38)
  (Q false h38)) h23)) (0, ()) h20))) h)
noncomputable def F10 := Seal @B10
theorem F10_eq : @F10 = @B10 := Seal_eq _
noncomputable def E10 : Ent Try.prog := mkEnt tabOk 10 Try.f10 (Try.f10.body.getD .skip) Try.func10 (by kernel_rfl)
  [E58, E53, E42, E55, E56]
  ⟨[(8, [(7, .one (.i .i64))])], [(9, [(33, .one (.i .i64))])], []⟩
  [.one (.i .u64), .one .b] (by kernel_rfl)
  (fun x K h => F10 x.1 x.2.1 (fun r1 h' => K (.bool r1) h') h)
  (fun x K h => B10 x.1 x.2.1 (fun r1 h' => K (.bool r1) h') h)
  (by rw [F10_eq]) (fun x K h => by kernel_rfl)

end Go.Proofs.Ytfijchofplkcoaa
