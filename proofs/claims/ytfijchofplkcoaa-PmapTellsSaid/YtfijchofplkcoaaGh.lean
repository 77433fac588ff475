/-
  PRINTED BY wip/tools/emit.py: what each Go function comes to, as a predicate over the heap (the kernel holds each against the translated program).
-/
import Derived.Test.YtfijchofplkcoaaGb
set_option linter.unusedVariables false
set_option maxRecDepth 100000
namespace Go.Proofs.Ytfijchofplkcoaa

/-- pantry/walk.read -/
def B183 (p0 : Option Addr) (p1 : Int) (p2 : Int) (Q : Int → Int → H → Prop) (h : H) : Prop :=
  Nw h (zeroC Try.prog 25) 25 fun a1 h2 =>
  F83 p0 p1 p2 (fun r3 r4 h5 =>
  LetI r3 fun n6 =>
  F40 n6 (fun r7 r8 h9 =>
  St h9 (a1.add 0) (.int .i64 r7) fun h10 =>
  St h10 (a1.add 1) (.int .i64 r8) fun h11 =>
  Ld (.i .i64) h11 (a1.add 0) fun x12 =>
  Ld (.i .i64) h11 (a1.add 1) fun x13 =>
  Q x12 x13 h11) h5) h2
noncomputable def F183 := Seal @B183
theorem F183_eq : @F183 = @B183 := Seal_eq _
noncomputable def E183 : Ent Try.prog := mkEnt tabOk 183 Try.f183 (Try.f183.body.getD .skip) Try.func183 (by kernel_rfl)
  [E83, E40]
  ⟨[], [], []⟩
  [.one .p, .one (.i .i64), .one (.i .i64)] (by kernel_rfl)
  (fun x K h => F183 x.1 x.2.1 x.2.2.1 (fun r1 r2 h' => K (.agg #[(.int .i64 r1), (.int .i64 r2)]) h') h)
  (fun x K h => B183 x.1 x.2.1 x.2.2.1 (fun r1 r2 h' => K (.agg #[(.int .i64 r1), (.int .i64 r2)]) h') h)
  (by rw [F183_eq]) (fun x K h => by kernel_rfl)

/-- pantry/walk.below -/
def B184 (p0 : Option Addr) (p1 : Int) (p2 : Int) (Q : Int → Bool → H → Prop) (h : H) : Prop :=
  F183 p0 p1 p2 (fun r1 r2 h3 =>
  Nw h3 (zeroC Try.prog 25) 25 fun a4 h5 =>
  St h5 (a4.add 0) (.int .i64 r1) fun h6 =>
  St h6 (a4.add 1) (.int .i64 r2) fun h7 =>
  Ld (.i .i64) h7 ((a4.add 1).add 0) fun x8 =>
  Ld (.i .i64) h7 (a4.add 0) fun x9 =>
  Ld (.i .i64) h7 (a4.add 1) fun x10 =>
  F53 x9 x10 (fun r11 h12 =>
  (hcell h12 ((a4.add 1).add 0) = some (.int .i64 x8)) ∧
  Br (r11 == 1)
  (Ld (.i .i64) h12 ((a4.add 1).add 0) fun x13 =>
  QC [.one (.i .i64)] h12 (fun K' h' => F93 p0 (fun r15 h'' => K' (.int .i64 r15) h'') h') fun x14 =>
  LetI x8 fun n16 =>
  Q n16 (decide (x13 < x14.1)) h12)
  (LetI x8 fun n17 =>
  Q n17 false h12)) h7) h
noncomputable def F184 := Seal @B184
theorem F184_eq : @F184 = @B184 := Seal_eq _
noncomputable def E184 : Ent Try.prog := mkEnt tabOk 184 Try.f184 (Try.f184.body.getD .skip) Try.func184 (by kernel_rfl)
  [E183, E53, E93]
  ⟨[], [], [(2, (.q 0 (.q 1 (.q 2 (.m1 3 (.q 4 (.q 5 (.q 6 (.q 7 (.q 8 (.qc 9 [.one (.i .i64)] (.q 10 (.q 11 (.q 12 (.q 13 .done)))))))))))))))]⟩
  [.one .p, .one (.i .i64), .one (.i .i64)] (by kernel_rfl)
  (fun x K h => F184 x.1 x.2.1 x.2.2.1 (fun r1 r2 h' => K (.tuple #[(.int .i64 r1), (.bool r2)]) h') h)
  (fun x K h => B184 x.1 x.2.1 x.2.2.1 (fun r1 r2 h' => K (.tuple #[(.int .i64 r1), (.bool r2)]) h') h)
  (by rw [F184_eq]) (fun x K h => by kernel_rfl)

/-- pantry/walk.Place -/
def B120 (p0 : Option Addr) (p1 : Int) (p2 : Int) (Q : Int → Int → Bool → H → Prop) (h : H) : Prop :=
  JoinM (σ := Unit) (fun J1 =>
  Br (decide (p1 < 0))
  (Q 0 0 false h)
  (F93 p0 (fun r4 h5 =>
  Br (decide (p1 ≥ r4))
  (Q 0 0 false h5)
  (Br (decide (p2 < 0))
  (Q 0 0 false h5)
  (Br (decide (p2 ≥ 134217728))
  (Q 0 0 false h5)
  (J1 (()) h5)))) h))
  (fun y2 h3 =>
  LetI p1 fun n6 =>
  LoopM (σ := Int × Int × Unit) (fun self7 z8 h9 =>
  Br (z8.2.1 == 0)
  (F44 p2 0 (fun r10 h11 =>
  LetI z8.1 fun n12 =>
  LetI r10 fun n13 =>
  Q n12 n13 true h11) h9)
  (F44 p2 z8.2.1 (fun r14 h15 =>
  F184 p0 z8.1 r14 (fun r16 r17 h18 =>
  LetI r16 fun n19 =>
  Br (!r17)
  (Q 0 0 false h18)
  (LetI n19 fun n20 =>
  LetI (IntKind.wrap .i64 (z8.2.1 - 1)) fun n21 =>
  self7 (n20, n21, ()) h18)) h15) h9)) (n6, 2, ()) h3)
noncomputable def F120 := Seal @B120
theorem F120_eq : @F120 = @B120 := Seal_eq _
noncomputable def E120 : Ent Try.prog := mkEnt tabOk 120 Try.f120 (Try.f120.body.getD .skip) Try.func120 (by kernel_rfl)
  [E93, E44, E184]
  ⟨[(3, [])], [(6, [(9, .one (.i .i64)), (10, .one (.i .i64))])], []⟩
  [.one .p, .one (.i .i64), .one (.i .i64)] (by kernel_rfl)
  (fun x K h => F120 x.1 x.2.1 x.2.2.1 (fun r1 r2 r3 h' => K (.tuple #[(.int .i64 r1), (.int .i64 r2), (.bool r3)]) h') h)
  (fun x K h => B120 x.1 x.2.1 x.2.2.1 (fun r1 r2 r3 h' => K (.tuple #[(.int .i64 r1), (.int .i64 r2), (.bool r3)]) h') h)
  (by rw [F120_eq]) (fun x K h => by kernel_rfl)

/-- pantry/walk.Walk -/
def B117 (p0 : Option Addr) (p1 : Int) (p2 : Int) (p3 : Int) (p4 : Bool) (Q : Int → Int → Int → H → Prop) (h : H) : Prop :=
  JoinM (σ := Unit) (fun J1 =>
  F49 p2 (fun r4 h5 =>
  Br (!r4)
  (Q 2 0 0 h5)
  (Br (decide (p1 < 0))
  (Q 2 0 0 h5)
  (F93 p0 (fun r6 h7 =>
  Br (decide (p1 ≥ r6))
  (Q 2 0 0 h7)
  (J1 (()) h7)) h5))) h)
  (fun y2 h3 =>
  F43 p2 (fun r8 r9 h10 =>
  LetI r8 fun n11 =>
  LetI r9 fun n12 =>
  F120 p0 p1 n11 (fun r13 r14 r15 h16 =>
  LetI r13 fun n17 =>
  LetI r14 fun n18 =>
  Br (!r15)
  (Q 1 0 0 h16)
  (F183 p0 n17 n18 (fun r19 r20 h21 =>
  Nw h21 (zeroC Try.prog 25) 25 fun a22 h23 =>
  St h23 (a22.add 0) (.int .i64 r19) fun h24 =>
  St h24 (a22.add 1) (.int .i64 r20) fun h25 =>
  JoinM (σ := Unit) (fun J26 =>
  Ld (.i .i64) h25 (a22.add 0) fun x29 =>
  Ld (.i .i64) h25 (a22.add 1) fun x30 =>
  F53 x29 x30 (fun r31 h32 =>
  Br (r31 != 2)
  (Q 1 0 0 h32)
  (Ld (.i .i64) h32 ((a22.add 1).add 0) fun x33 =>
  QC [.one (.i .i64)] h32 (fun K' h' => F93 p0 (fun r35 h'' => K' (.int .i64 r35) h'') h') fun x34 =>
  Br (decide (x33 ≥ x34.1))
  (Q 1 0 0 h32)
  (J26 (()) h32))) h25)
  (fun y27 h28 =>
  Ld (.i .i64) h28 (a22.add 0) fun x36 =>
  Ld (.i .i64) h28 (a22.add 1) fun x37 =>
  F55 x36 x37 p3 p4 (fun r38 h39 =>
  Br (!r38)
  (Q 3 0 0 h39)
  (JoinM (σ := Int × Unit) (fun J40 =>
  Br (p3 == 2)
  (LetI (bOr .u64 64 128) fun n43 =>
  J40 (n43, ()) h39)
  (J40 (64, ()) h39))
  (fun y41 h42 =>
  F83 p0 n17 n18 (fun r44 r45 h46 =>
  LetI r44 fun n47 =>
  F82 p0 n17 n18 (bOr .u64 n47 y41.1) (fun r48 h49 =>
  Ld (.i .i64) h49 ((a22.add 1).add 0) fun x50 =>
  LetI x50 fun n51 =>
  LetI n12 fun n52 =>
  Q 0 n51 n52 h49) h46) h42))) h28)) h16)) h10) h3)
noncomputable def F117 := Seal @B117
theorem F117_eq : @F117 = @B117 := Seal_eq _
noncomputable def E117 : Ent Try.prog := mkEnt tabOk 117 Try.f117 (Try.f117.body.getD .skip) Try.func117 (by kernel_rfl)
  [E49, E93, E43, E120, E183, E53, E55, E83, E82]
  ⟨[(3, []), (10, []), (15, [(19, .one (.i .u64))])], [], [(8, (.q 0 (.m1 1 (.q 2 (.q 3 (.q 4 (.q 5 (.q 6 (.qc 7 [.one (.i .i64)] (.q 8 (.q 9 .done))))))))))), (17, (.q 0 (.q 1 (.q 2 (.q 3 (.q 4 (.q 5 .done)))))))]⟩
  [.one .p, .one (.i .i64), .one (.i .i64), .one (.i .i64), .one .b] (by kernel_rfl)
  (fun x K h => F117 x.1 x.2.1 x.2.2.1 x.2.2.2.1 x.2.2.2.2.1 (fun r1 r2 r3 h' => K (.tuple #[(.int .i64 r1), (.int .i64 r2), (.int .i64 r3)]) h') h)
  (fun x K h => B117 x.1 x.2.1 x.2.2.1 x.2.2.2.1 x.2.2.2.2.1 (fun r1 r2 r3 h' => K (.tuple #[(.int .i64 r1), (.int .i64 r2), (.int .i64 r3)]) h') h)
  (by rw [F117_eq]) (fun x K h => by kernel_rfl)

/-- pantry/pantryref04.Place -/
def B121 (p0 : Option Addr) (p1 : Int) (p2 : Int) (Q : Int → Int → Bool → H → Prop) (h : H) : Prop :=
  JoinM (σ := Unit) (fun J1 =>
  F170 p0 p1 (fun r4 h5 =>
  Br (!r4)
  (Q 0 0 false h5)
  (Br (decide (p2 < 0))
  (Q 0 0 false h5)
  (Br (decide (p2 ≥ 134217728))
  (Q 0 0 false h5)
  (J1 (()) h5)))) h)
  (fun y2 h3 =>
  LetI p1 fun n6 =>
  LoopM (σ := Int × Int × Unit) (fun self7 z8 h9 =>
  Br (decide (z8.2.1 ≥ 1))
  (F46 p2 z8.2.1 (fun r10 h11 =>
  F91 p0 z8.1 r10 (fun r12 r13 h14 =>
  LetI r12 fun n15 =>
  F52 n15 (fun r16 r17 h18 =>
  Nw h18 (zeroC Try.prog 25) 25 fun a19 h20 =>
  St h20 (a19.add 0) (.int .i64 r16) fun h21 =>
  St h21 (a19.add 1) (.int .i64 r17) fun h22 =>
  Ld (.i .i64) h22 (a19.add 0) fun x23 =>
  Ld (.i .i64) h22 (a19.add 1) fun x24 =>
  F54 x23 x24 (fun r25 h26 =>
  Br (r25 != 1)
  (Q 0 0 false h26)
  (Ld (.i .i64) h26 ((a19.add 1).add 0) fun x27 =>
  F170 p0 x27 (fun r28 h29 =>
  Br (!r28)
  (Q 0 0 false h29)
  (Ld (.i .i64) h29 ((a19.add 1).add 0) fun x30 =>
  LetI x30 fun n31 =>
  LetI (IntKind.wrap .i64 (z8.2.1 - 1)) fun n32 =>
  self7 (n31, n32, ()) h29)) h26)) h22) h14) h11) h9)
  (F46 p2 0 (fun r33 h34 =>
  LetI z8.1 fun n35 =>
  LetI r33 fun n36 =>
  Q n35 n36 true h34) h9)) (n6, 2, ()) h3)
noncomputable def F121 := Seal @B121
theorem F121_eq : @F121 = @B121 := Seal_eq _
noncomputable def E121 : Ent Try.prog := mkEnt tabOk 121 Try.f121 (Try.f121.body.getD .skip) Try.func121 (by kernel_rfl)
  [E170, E46, E91, E52, E54]
  ⟨[(3, [])], [(5, [(9, .one (.i .i64)), (10, .one (.i .i64))])], []⟩
  [.one .p, .one (.i .i64), .one (.i .i64)] (by kernel_rfl)
  (fun x K h => F121 x.1 x.2.1 x.2.2.1 (fun r1 r2 r3 h' => K (.tuple #[(.int .i64 r1), (.int .i64 r2), (.bool r3)]) h') h)
  (fun x K h => B121 x.1 x.2.1 x.2.2.1 (fun r1 r2 r3 h' => K (.tuple #[(.int .i64 r1), (.int .i64 r2), (.bool r3)]) h') h)
  (by rw [F121_eq]) (fun x K h => by kernel_rfl)

/-- pantry/pantryref04.Walk -/
def B118 (p0 : Option Addr) (p1 : Int) (p2 : Int) (p3 : Int) (p4 : Bool) (Q : Int → Int → Int → H → Prop) (h : H) : Prop :=
  JoinM (σ := Unit) (fun J1 =>
  F50 p2 (fun r4 h5 =>
  Br (!r4)
  (Q 2 0 0 h5)
  (F170 p0 p1 (fun r6 h7 =>
  Br (!r6)
  (Q 2 0 0 h7)
  (J1 (()) h7)) h5)) h)
  (fun y2 h3 =>
  F45 p2 (fun r8 r9 h10 =>
  LetI r8 fun n11 =>
  LetI r9 fun n12 =>
  F121 p0 p1 n11 (fun r13 r14 r15 h16 =>
  LetI r13 fun n17 =>
  LetI r14 fun n18 =>
  Br (!r15)
  (Q 1 0 0 h16)
  (F91 p0 n17 n18 (fun r19 r20 h21 =>
  LetI r19 fun n22 =>
  F52 n22 (fun r23 r24 h25 =>
  Nw h25 (zeroC Try.prog 25) 25 fun a26 h27 =>
  St h27 (a26.add 0) (.int .i64 r23) fun h28 =>
  St h28 (a26.add 1) (.int .i64 r24) fun h29 =>
  JoinM (σ := Unit) (fun J30 =>
  Ld (.i .i64) h29 (a26.add 0) fun x33 =>
  Ld (.i .i64) h29 (a26.add 1) fun x34 =>
  F54 x33 x34 (fun r35 h36 =>
  Br (r35 != 2)
  (Q 1 0 0 h36)
  (Ld (.i .i64) h36 ((a26.add 1).add 0) fun x37 =>
  F170 p0 x37 (fun r38 h39 =>
  Br (!r38)
  (Q 1 0 0 h39)
  (Ld (.i .i64) h39 (a26.add 0) fun x40 =>
  Ld (.i .i64) h39 (a26.add 1) fun x41 =>
  F57 x40 x41 p3 p4 (fun r42 h43 =>
  Br (!r42)
  (Q 3 0 0 h43)
  (J30 (()) h43)) h39)) h36)) h29)
  (fun y31 h32 =>
  LetI (bOr .u64 n22 64) fun n44 =>
  JoinM (σ := Int × Unit) (fun J45 =>
  Br (p3 == 2)
  (LetI (bOr .u64 n44 128) fun n48 =>
  J45 (n48, ()) h32)
  (J45 (n44, ()) h32))
  (fun y46 h47 =>
  F166 p0 n17 n18 y46.1 (fun r49 h50 =>
  Ld (.i .i64) h50 ((a26.add 1).add 0) fun x51 =>
  LetI x51 fun n52 =>
  LetI n12 fun n53 =>
  Q 0 n52 n53 h50) h47))) h21) h16)) h10) h3)
noncomputable def F118 := Seal @B118
theorem F118_eq : @F118 = @B118 := Seal_eq _
noncomputable def E118 : Ent Try.prog := mkEnt tabOk 118 Try.f118 (Try.f118.body.getD .skip) Try.func118 (by kernel_rfl)
  [E50, E170, E45, E121, E91, E52, E54, E57, E166]
  ⟨[(3, []), (13, []), (16, [(18, .one (.i .u64))])], [], [(17, (.q 0 (.q 1 (.q 2 (.q 3 (.q 4 (.q 5 .done)))))))]⟩
  [.one .p, .one (.i .i64), .one (.i .i64), .one (.i .i64), .one .b] (by kernel_rfl)
  (fun x K h => F118 x.1 x.2.1 x.2.2.1 x.2.2.2.1 x.2.2.2.2.1 (fun r1 r2 r3 h' => K (.tuple #[(.int .i64 r1), (.int .i64 r2), (.int .i64 r3)]) h') h)
  (fun x K h => B118 x.1 x.2.1 x.2.2.1 x.2.2.2.1 x.2.2.2.2.1 (fun r1 r2 r3 h' => K (.tuple #[(.int .i64 r1), (.int .i64 r2), (.int .i64 r3)]) h') h)
  (by rw [F118_eq]) (fun x K h => by kernel_rfl)

/-- pantry/walk.Look -/
def B122 (p0 : Option Addr) (p1 : Int) (p2 : Int) (Q : Int → Int → Bool → H → Prop) (h : H) : Prop :=
  Nw h (zeroC Try.prog 25) 25 fun a1 h2 =>
  F120 p0 p1 p2 (fun r3 r4 r5 h6 =>
  LetI r3 fun n7 =>
  LetI r4 fun n8 =>
  Br (!r5)
  (St h6 (a1.add 0) (.int .i64 0) fun h9 =>
  St h9 (a1.add 1) (.int .i64 0) fun h10 =>
  Ld (.i .i64) h10 (a1.add 0) fun x11 =>
  Ld (.i .i64) h10 (a1.add 1) fun x12 =>
  Q x11 x12 false h10)
  (F183 p0 n7 n8 (fun r13 r14 h15 =>
  St h15 (a1.add 0) (.int .i64 r13) fun h16 =>
  St h16 (a1.add 1) (.int .i64 r14) fun h17 =>
  Ld (.i .i64) h17 (a1.add 0) fun x18 =>
  Ld (.i .i64) h17 (a1.add 1) fun x19 =>
  Q x18 x19 true h17) h6)) h2
noncomputable def F122 := Seal @B122
theorem F122_eq : @F122 = @B122 := Seal_eq _
noncomputable def E122 : Ent Try.prog := mkEnt tabOk 122 Try.f122 (Try.f122.body.getD .skip) Try.func122 (by kernel_rfl)
  [E120, E183]
  ⟨[], [], []⟩
  [.one .p, .one (.i .i64), .one (.i .i64)] (by kernel_rfl)
  (fun x K h => F122 x.1 x.2.1 x.2.2.1 (fun r1 r2 r3 h' => K (.tuple #[(.agg #[(.int .i64 r1), (.int .i64 r2)]), (.bool r3)]) h') h)
  (fun x K h => B122 x.1 x.2.1 x.2.2.1 (fun r1 r2 r3 h' => K (.tuple #[(.agg #[(.int .i64 r1), (.int .i64 r2)]), (.bool r3)]) h') h)
  (by rw [F122_eq]) (fun x K h => by kernel_rfl)

/-- pantry/pantryref04.Look -/
def B123 (p0 : Option Addr) (p1 : Int) (p2 : Int) (Q : Int → Int → Bool → H → Prop) (h : H) : Prop :=
  Nw h (zeroC Try.prog 25) 25 fun a1 h2 =>
  F121 p0 p1 p2 (fun r3 r4 r5 h6 =>
  LetI r3 fun n7 =>
  LetI r4 fun n8 =>
  Br (!r5)
  (St h6 (a1.add 0) (.int .i64 0) fun h9 =>
  St h9 (a1.add 1) (.int .i64 0) fun h10 =>
  Ld (.i .i64) h10 (a1.add 0) fun x11 =>
  Ld (.i .i64) h10 (a1.add 1) fun x12 =>
  Q x11 x12 false h10)
  (F91 p0 n7 n8 (fun r13 r14 h15 =>
  LetI r13 fun n16 =>
  F52 n16 (fun r17 r18 h19 =>
  St h19 (a1.add 0) (.int .i64 r17) fun h20 =>
  St h20 (a1.add 1) (.int .i64 r18) fun h21 =>
  Ld (.i .i64) h21 (a1.add 0) fun x22 =>
  Ld (.i .i64) h21 (a1.add 1) fun x23 =>
  Q x22 x23 true h21) h15) h6)) h2
noncomputable def F123 := Seal @B123
theorem F123_eq : @F123 = @B123 := Seal_eq _
noncomputable def E123 : Ent Try.prog := mkEnt tabOk 123 Try.f123 (Try.f123.body.getD .skip) Try.func123 (by kernel_rfl)
  [E121, E91, E52]
  ⟨[], [], []⟩
  [.one .p, .one (.i .i64), .one (.i .i64)] (by kernel_rfl)
  (fun x K h => F123 x.1 x.2.1 x.2.2.1 (fun r1 r2 r3 h' => K (.tuple #[(.agg #[(.int .i64 r1), (.int .i64 r2)]), (.bool r3)]) h') h)
  (fun x K h => B123 x.1 x.2.1 x.2.2.1 (fun r1 r2 r3 h' => K (.tuple #[(.agg #[(.int .i64 r1), (.int .i64 r2)]), (.bool r3)]) h') h)
  (by rw [F123_eq]) (fun x K h => by kernel_rfl)

/-- pantry/pantryref04.table -/
def B185 (p0 : Option Addr) (p1 : Int) (p2 : Int) (Q : Bool → H → Prop) (h : H) : Prop :=
  F91 p0 p1 p2 (fun r1 r2 h3 =>
  LetI r1 fun n4 =>
  F52 n4 (fun r5 r6 h7 =>
  Nw h7 (zeroC Try.prog 25) 25 fun a8 h9 =>
  St h9 (a8.add 0) (.int .i64 r5) fun h10 =>
  St h10 (a8.add 1) (.int .i64 r6) fun h11 =>
  Br r2
  (Ld (.i .i64) h11 (a8.add 0) fun x12 =>
  Ld (.i .i64) h11 (a8.add 1) fun x13 =>
  F54 x12 x13 (fun r14 h15 =>
  Br (r14 == 1)
  (Ld (.i .i64) h15 ((a8.add 1).add 0) fun x16 =>
  F170 p0 x16 (fun r17 h18 =>
  Q r17 h18) h15)
  (Q false h15)) h11)
  (Q false h11)) h3) h
noncomputable def F185 := Seal @B185
theorem F185_eq : @F185 = @B185 := Seal_eq _
noncomputable def E185 : Ent Try.prog := mkEnt tabOk 185 Try.f185 (Try.f185.body.getD .skip) Try.func185 (by kernel_rfl)
  [E91, E52, E54, E170]
  ⟨[], [], []⟩
  [.one .p, .one (.i .i64), .one (.i .i64)] (by kernel_rfl)
  (fun x K h => F185 x.1 x.2.1 x.2.2.1 (fun r1 h' => K (.bool r1) h') h)
  (fun x K h => B185 x.1 x.2.1 x.2.2.1 (fun r1 h' => K (.bool r1) h') h)
  (by rw [F185_eq]) (fun x K h => by kernel_rfl)

/-- pantry/pantryref04.Leaves -/
def B126 (p0 : Option Addr) (p1 : Int) (Q : Sl → H → Prop) (h : H) : Prop :=
  LoopM (σ := Sl × Int × Unit) (fun self1 z2 h3 =>
  Br (decide (z2.2.1 < 512))
  (JoinM (σ := Unit) (fun J4 =>
  F48 z2.2.1 0 0 (fun r7 h8 =>
  F121 p0 p1 r7 (fun r9 r10 r11 h12 =>
  LetI r9 fun n13 =>
  LetI r10 fun n14 =>
  Br (!r11)
  (F185 p0 p1 z2.2.1 (fun r15 h16 =>
  Br (!r15)
  (LetI (IntKind.wrap .i64 (z2.2.1 + 1)) fun n17 =>
  self1 (z2.1, n17, ()) h16)
  (J4 (()) h16)) h12)
  (J4 (()) h12)) h8) h3)
  (fun y5 h6 =>
  LoopM (σ := Sl × Int × Unit) (fun self18 z19 h20 =>
  Br (decide (z19.2.1 < 512))
  (F48 z2.2.1 z19.2.1 0 (fun r21 h22 =>
  F121 p0 p1 r21 (fun r23 r24 r25 h26 =>
  LetI r23 fun n27 =>
  LetI r24 fun n28 =>
  Br (!r25)
  (LetI (IntKind.wrap .i64 (z19.2.1 + 1)) fun n29 =>
  self18 (z19.1, n29, ()) h26)
  (LoopM (σ := Sl × Int × Unit) (fun self30 z31 h32 =>
  Br (decide (z31.2.1 < 512))
  (F48 z2.2.1 z19.2.1 z31.2.1 (fun r33 h34 =>
  LetI r33 fun n35 =>
  F123 p0 p1 n35 (fun r36 r37 r38 h39 =>
  Nw h39 (zeroC Try.prog 25) 25 fun a40 h41 =>
  St h41 (a40.add 0) (.int .i64 r36) fun h42 =>
  St h42 (a40.add 1) (.int .i64 r37) fun h43 =>
  Ld (.i .i64) h43 (a40.add 0) fun x44 =>
  Ld (.i .i64) h43 (a40.add 1) fun x45 =>
  F54 x44 x45 (fun r46 h47 =>
  Br (r46 == 2)
  (Ld (.i .i64) h47 (a40.add 0) fun x48 =>
  Ld (.i .i64) h47 (a40.add 1) fun x49 =>
  Nw h47 #[(.int .i64 n35), (.int .i64 x48), (.int .i64 x49)] 165 fun a50 h51 =>
  App Try.prog ⟨none, 165, 3, 24⟩ h51 z31.1 ⟨(some a50), 1, 1⟩ fun s52 h53 =>
  LetI (IntKind.wrap .i64 (z31.2.1 + 1)) fun n54 =>
  self30 (s52, n54, ()) h53)
  (LetI (IntKind.wrap .i64 (z31.2.1 + 1)) fun n55 =>
  self30 (z31.1, n55, ()) h47)) h43) h34) h32)
  (LetI (IntKind.wrap .i64 (z19.2.1 + 1)) fun n56 =>
  self18 (z31.1, n56, ()) h32)) (z19.1, 0, ()) h26)) h22) h20)
  (LetI (IntKind.wrap .i64 (z2.2.1 + 1)) fun n57 =>
  self1 (z19.1, n57, ()) h20)) (z2.1, 0, ()) h6))
  (Q z2.1 h3)) (⟨none, 0, 0⟩, 0, ()) h
noncomputable def F126 := Seal @B126
theorem F126_eq : @F126 = @B126 := Seal_eq _
noncomputable def E126 : Ent Try.prog := mkEnt tabOk 126 Try.f126 (Try.f126.body.getD .skip) Try.func126 (by kernel_rfl)
  [E48, E121, E185, E123, E54]
  ⟨[(7, [])], [(3, [(5, .one .s), (6, .one (.i .i64))]), (8, [(5, .one .s), (10, .one (.i .i64))]), (13, [(5, .one .s), (14, .one (.i .i64))])], []⟩
  [.one .p, .one (.i .i64)] (by kernel_rfl)
  (fun x K h => F126 x.1 x.2.1 (fun r1 h' => K (.slice r1.a r1.len r1.cap) h') h)
  (fun x K h => B126 x.1 x.2.1 (fun r1 h' => K (.slice r1.a r1.len r1.cap) h') h)
  (by rw [F126_eq]) (fun x K h => by kernel_rfl)

/-- pantry/walk.Leaves -/
def B127 (p0 : Option Addr) (p1 : Int) (Q : Value → H → Prop) (h : H) : Prop :=
  Nw h #[(.pointer p0)] 45 fun a1 h2 =>
  Nw h2 #[(.int .i64 p1)] 3 fun a3 h4 =>
  Q (.func (.func 186) #[] #[(.pointer (some a1)), (.pointer (some a3))]) h4
noncomputable def F127 := Seal @B127
theorem F127_eq : @F127 = @B127 := Seal_eq _
noncomputable def E127 : Ent Try.prog := mkEnt tabOk 127 Try.f127 (Try.f127.body.getD .skip) Try.func127 (by kernel_rfl)
  []
  ⟨[], [], []⟩
  [.one .p, .one (.i .i64)] (by kernel_rfl)
  (fun x K h => F127 x.1 x.2.1 (fun r1 h' => K r1 h') h)
  (fun x K h => B127 x.1 x.2.1 (fun r1 h' => K r1 h') h)
  (by rw [F127_eq]) (fun x K h => by kernel_rfl)

end Go.Proofs.Ytfijchofplkcoaa
