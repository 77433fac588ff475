/-
  PRINTED BY wip/tools/emit.py: what each Go function comes to, as a predicate over the heap (the kernel holds each against the translated program).
-/
import Derived.Test.YtfijchofplkcoaaGb
set_option linter.unusedVariables false
set_option maxRecDepth 100000
namespace Go.Proofs.Ytfijchofplkcoaa

/-- pantry/slots.New -/
def B66 (p0 : Int) (Q : Option Addr → H → Prop) (h : H) : Prop :=
  JoinM (σ := Unit) (fun J1 =>
  Br (decide (p0 < 0))
  (Q none h)
  (Br (decide (p0 > 256))
  (Q none h)
  (J1 (()) h)))
  (fun y2 h3 =>
  Asr ((64 : Int) ≠ 0)
  (LetI (IntKind.wrap .i64 (Int.tdiv (IntKind.wrap .i64 ((IntKind.wrap .i64 (p0 + 64)) - 1)) 64)) fun n4 =>
  (Mk Try.prog ⟨none, 23, 1, 8⟩ h3 n4 n4 fun s5 h6 =>
  Mk Try.prog ⟨none, 23, 1, 8⟩ h6 n4 n4 fun s7 h8 =>
  Nw h8 #[(.int .i64 p0), (.slice s5.a s5.len s5.cap), (.slice s7.a s7.len s7.cap)] 131 fun a9 h10 =>
  Q (some a9) h10) ∧
  (Mk Try.prog ⟨none, 23, 1, 8⟩ h3 n4 n4 fun s11 h12 =>
  Mk Try.prog ⟨none, 23, 1, 8⟩ h12 n4 n4 fun s13 h14 =>
  Nw h14 #[(.int .i64 p0), (.slice s13.a s13.len s13.cap), (.slice s11.a s11.len s11.cap)] 131 fun a15 h16 =>
  Q (some a15) h16)))
noncomputable def F66 := Seal @B66
theorem F66_eq : @F66 = @B66 := Seal_eq _
noncomputable def E66 : Ent Try.prog := mkEnt tabOk 66 Try.f66 (Try.f66.body.getD .skip) Try.func66 (by kernel_rfl)
  []
  ⟨[(3, [])], [], [(4, (.q 0 (.q 1 (.q 3 (.m2 2 4 (.m1 4 (.q 5 (.m1 6 (.q 7 .done)))) (.m1 2 (.q 5 (.m1 6 (.q 7 .done)))))))))]⟩
  [.one (.i .i64)] (by kernel_rfl)
  (fun x K h => F66 x.1 (fun r1 h' => K (.pointer r1) h') h)
  (fun x K h => B66 x.1 (fun r1 h' => K (.pointer r1) h') h)
  (by rw [F66_eq]) (fun x K h => by kernel_rfl)

/-- pantry/slots.has -/
def B156 (p0 : Sl) (p1 : Int) (Q : Bool → H → Prop) (h : H) : Prop :=
  Asr ((64 : Int) ≠ 0)
  (IdxS p0.a p0.len (IntKind.wrap .i64 (Int.tdiv p1 64)) fun a1 =>
  Ld (.i .u64) h ((a1.add (Int.toNat (IntKind.wrap .i64 (Int.tdiv p1 64)) * 1)).add 0) fun x2 =>
  Asr ((64 : Int) ≠ 0)
  (Asr ((0 : Int) ≤ (Int.tmod p1 64))
  (Q (decide ((bAnd .u64 (shR .u64 x2 (Int.tmod p1 64)) 1) > 0)) h)))
noncomputable def F156 := Seal @B156
theorem F156_eq : @F156 = @B156 := Seal_eq _
noncomputable def E156 : Ent Try.prog := mkEnt tabOk 156 Try.f156 (Try.f156.body.getD .skip) Try.func156 (by kernel_rfl)
  []
  ⟨[], [], []⟩
  [.one .s, .one (.i .i64)] (by kernel_rfl)
  (fun x K h => F156 x.1 x.2.1 (fun r1 h' => K (.bool r1) h') h)
  (fun x K h => B156 x.1 x.2.1 (fun r1 h' => K (.bool r1) h') h)
  (by rw [F156_eq]) (fun x K h => by kernel_rfl)

/-- pantry/slots.put -/
def B157 (p0 : Sl) (p1 : Int) (Q : H → Prop) (h : H) : Prop :=
  Asr ((64 : Int) ≠ 0)
  (IdxS p0.a p0.len (IntKind.wrap .i64 (Int.tdiv p1 64)) fun a1 =>
  Ld (.i .u64) h ((a1.add (Int.toNat (IntKind.wrap .i64 (Int.tdiv p1 64)) * 1)).add 0) fun x2 =>
  Asr ((64 : Int) ≠ 0)
  (Asr ((0 : Int) ≤ (Int.tmod p1 64))
  (IdxS p0.a p0.len (IntKind.wrap .i64 (Int.tdiv p1 64)) fun a3 =>
  St h ((a3.add (Int.toNat (IntKind.wrap .i64 (Int.tdiv p1 64)) * 1)).add 0) (.int .u64 (bOr .u64 x2 (shL .u64 1 (Int.tmod p1 64)))) fun h4 =>
  Q  h4)))
noncomputable def F157 := Seal @B157
theorem F157_eq : @F157 = @B157 := Seal_eq _
noncomputable def E157 : Ent Try.prog := mkEnt tabOk 157 Try.f157 (Try.f157.body.getD .skip) Try.func157 (by kernel_rfl)
  []
  ⟨[], [], [(0, (.q 0 (.q 1 (.q 2 (.q 3 (.q 4 (.q 5 (.q 6 (.q 7 (.q 8 (.q 9 (.m1 10 .done))))))))))))]⟩
  [.one .s, .one (.i .i64)] (by kernel_rfl)
  (fun x K h => F157 x.1 x.2.1 (fun  h' => K (.tuple #[]) h') h)
  (fun x K h => B157 x.1 x.2.1 (fun  h' => K (.tuple #[]) h') h)
  (by rw [F157_eq]) (fun x K h => by kernel_rfl)

/-- (*pantry/slots.Slots).TakeRun -/
def B69 (p0 : Option Addr) (p1 : Int) (Q : Int → Bool → H → Prop) (h : H) : Prop :=
  JoinM (σ := Unit) (fun J1 =>
  Br (Option.isNone p0)
  (Q 0 false h)
  (Br (decide (p1 < 1))
  (Q 0 false h)
  (NilP p0 fun a4 =>
  Ld (.i .i64) h ((a4.add 0).add 0) fun x5 =>
  Br (decide (p1 > x5))
  (Q 0 false h)
  (J1 (()) h))))
  (fun y2 h3 =>
  JoinM (σ := Unit) (fun J6 =>
  J6 (()) h3)
  (fun y7 h8 =>
  LoopM (σ := Int × Unit) (fun self9 z10 h11 =>
  NilP p0 fun a12 =>
  Ld (.i .i64) h11 ((a12.add 0).add 0) fun x13 =>
  Br (decide (z10.1 ≤ (IntKind.wrap .i64 (x13 - p1))))
  (LetI (IntKind.wrap .i64 ((IntKind.wrap .i64 (z10.1 + p1)) - 1)) fun n14 =>
  LoopM (σ := Int × Int × Unit) (fun self15 z16 h17 =>
  Br (decide (z16.2.1 ≥ z16.1))
  (NilP p0 fun a18 =>
  Ld .s h17 ((a18.add 1).add 0) fun x19 =>
  F156 x19 z16.2.1 (fun r20 h21 =>
  Br r20
  (LetI z16.2.1 fun n22 =>
  LetI (IntKind.wrap .i64 (n22 + 1)) fun n23 =>
  self9 (n23, ()) h21)
  (LetI (IntKind.wrap .i64 (z16.2.1 - 1)) fun n24 =>
  self15 (z16.1, n24, ()) h21)) h17)
  (LoopM (σ := Int × Unit) (fun self25 z26 h27 =>
  Br (decide (z26.1 < p1))
  (LetI z26.1 fun n28 =>
  NilP p0 fun a29 =>
  Ld .s h27 ((a29.add 1).add 0) fun x30 =>
  F157 x30 (IntKind.wrap .i64 (z16.1 + n28)) (fun  h31 =>
  self25 ((IntKind.wrap .i64 (z26.1 + 1)), ()) h31) h27)
  (LetI z16.1 fun n32 =>
  Q n32 true h27)) (0, ()) h17)) (z10.1, n14, ()) h11)
  (Q 0 false h11)) (0, ()) h8))
noncomputable def F69 := Seal @B69
theorem F69_eq : @F69 = @B69 := Seal_eq _
noncomputable def E69 : Ent Try.prog := mkEnt tabOk 69 Try.f69 (Try.f69.body.getD .skip) Try.func69 (by kernel_rfl)
  [E156, E157]
  ⟨[(3, [])], [(4, [(6, .one (.i .i64))]), (7, [(6, .one (.i .i64)), (7, .one (.i .i64))]), (12, [(50, .one (.i .i64))])], []⟩
  [.one .p, .one (.i .i64)] (by kernel_rfl)
  (fun x K h => F69 x.1 x.2.1 (fun r1 r2 h' => K (.tuple #[(.int .i64 r1), (.bool r2)]) h') h)
  (fun x K h => B69 x.1 x.2.1 (fun r1 r2 h' => K (.tuple #[(.int .i64 r1), (.bool r2)]) h') h)
  (by rw [F69_eq]) (fun x K h => by kernel_rfl)

/-- (*pantry/slots.Slots).Take -/
def B68 (p0 : Option Addr) (Q : Int → Bool → H → Prop) (h : H) : Prop :=
  F69 p0 1 (fun r1 r2 h3 =>
  LetI r1 fun n4 =>
  Q n4 r2 h3) h
noncomputable def F68 := Seal @B68
theorem F68_eq : @F68 = @B68 := Seal_eq _
noncomputable def E68 : Ent Try.prog := mkEnt tabOk 68 Try.f68 (Try.f68.body.getD .skip) Try.func68 (by kernel_rfl)
  [E69]
  ⟨[], [], []⟩
  [.one .p] (by kernel_rfl)
  (fun x K h => F68 x.1 (fun r1 r2 h' => K (.tuple #[(.int .i64 r1), (.bool r2)]) h') h)
  (fun x K h => B68 x.1 (fun r1 r2 h' => K (.tuple #[(.int .i64 r1), (.bool r2)]) h') h)
  (by rw [F68_eq]) (fun x K h => by kernel_rfl)

/-- (*pantry/slots.Slots).is -/
def B158 (p0 : Option Addr) (p1 : Int) (Q : Bool → H → Prop) (h : H) : Prop :=
  Br (!(Option.isNone p0))
  (Br (decide (p1 ≥ 0))
  (NilP p0 fun a1 =>
  Ld (.i .i64) h ((a1.add 0).add 0) fun x2 =>
  Q (decide (p1 < x2)) h)
  (Q false h))
  (Q false h)
noncomputable def F158 := Seal @B158
theorem F158_eq : @F158 = @B158 := Seal_eq _
noncomputable def E158 : Ent Try.prog := mkEnt tabOk 158 Try.f158 (Try.f158.body.getD .skip) Try.func158 (by kernel_rfl)
  []
  ⟨[], [], []⟩
  [.one .p, .one (.i .i64)] (by kernel_rfl)
  (fun x K h => F158 x.1 x.2.1 (fun r1 h' => K (.bool r1) h') h)
  (fun x K h => B158 x.1 x.2.1 (fun r1 h' => K (.bool r1) h') h)
  (by rw [F158_eq]) (fun x K h => by kernel_rfl)

/-- (*pantry/slots.Slots).State -/
def B73 (p0 : Option Addr) (p1 : Int) (Q : Int → H → Prop) (h : H) : Prop :=
  F158 p0 p1 (fun r1 h2 =>
  Br (!r1)
  (Q (-1) h2)
  (NilP p0 fun a3 =>
  Ld .s h2 ((a3.add 2).add 0) fun x4 =>
  F156 x4 p1 (fun r5 h6 =>
  Br r5
  (Q 2 h6)
  (NilP p0 fun a7 =>
  Ld .s h6 ((a7.add 1).add 0) fun x8 =>
  F156 x8 p1 (fun r9 h10 =>
  Br r9
  (Q 1 h10)
  (Q 0 h10)) h6)) h2)) h
noncomputable def F73 := Seal @B73
theorem F73_eq : @F73 = @B73 := Seal_eq _
noncomputable def E73 : Ent Try.prog := mkEnt tabOk 73 Try.f73 (Try.f73.body.getD .skip) Try.func73 (by kernel_rfl)
  [E158, E156]
  ⟨[], [], []⟩
  [.one .p, .one (.i .i64)] (by kernel_rfl)
  (fun x K h => F73 x.1 x.2.1 (fun r1 h' => K (.int .i64 r1) h') h)
  (fun x K h => B73 x.1 x.2.1 (fun r1 h' => K (.int .i64 r1) h') h)
  (by rw [F73_eq]) (fun x K h => by kernel_rfl)

/-- (*pantry/slots.Slots).Give -/
def B70 (p0 : Option Addr) (p1 : Int) (Q : Bool → H → Prop) (h : H) : Prop :=
  F73 p0 p1 (fun r1 h2 =>
  Br (r1 != 1)
  (Q false h2)
  (NilP p0 fun a3 =>
  Ld .s h2 ((a3.add 1).add 0) fun x4 =>
  Asr ((64 : Int) ≠ 0)
  (IdxS x4.a x4.len (IntKind.wrap .i64 (Int.tdiv p1 64)) fun a5 =>
  Ld (.i .u64) h2 ((a5.add (Int.toNat (IntKind.wrap .i64 (Int.tdiv p1 64)) * 1)).add 0) fun x6 =>
  Asr ((64 : Int) ≠ 0)
  (Asr ((0 : Int) ≤ (Int.tmod p1 64))
  (IdxS x4.a x4.len (IntKind.wrap .i64 (Int.tdiv p1 64)) fun a7 =>
  St h2 ((a7.add (Int.toNat (IntKind.wrap .i64 (Int.tdiv p1 64)) * 1)).add 0) (.int .u64 (bAndNot .u64 x6 (shL .u64 1 (Int.tmod p1 64)))) fun h8 =>
  Q true h8))))) h
noncomputable def F70 := Seal @B70
theorem F70_eq : @F70 = @B70 := Seal_eq _
noncomputable def E70 : Ent Try.prog := mkEnt tabOk 70 Try.f70 (Try.f70.body.getD .skip) Try.func70 (by kernel_rfl)
  [E73]
  ⟨[], [], [(3, (.q 0 (.q 1 (.q 2 (.q 3 (.q 4 (.q 5 (.q 6 (.q 7 (.q 8 (.q 9 (.q 10 (.q 11 (.q 12 (.m1 13 .done)))))))))))))))]⟩
  [.one .p, .one (.i .i64)] (by kernel_rfl)
  (fun x K h => F70 x.1 x.2.1 (fun r1 h' => K (.bool r1) h') h)
  (fun x K h => B70 x.1 x.2.1 (fun r1 h' => K (.bool r1) h') h)
  (by rw [F70_eq]) (fun x K h => by kernel_rfl)

/-- (*pantry/slots.Slots).Words -/
def B72 (p0 : Option Addr) (Q : Sl → H → Prop) (h : H) : Prop :=
  Br (Option.isNone p0)
  (Q ⟨none, 0, 0⟩ h)
  (NilP p0 fun a1 =>
  Ld .s h ((a1.add 1).add 0) fun x2 =>
  Mk Try.prog ⟨none, 23, 1, 8⟩ h ((x2.len : Nat) : Int) ((x2.len : Nat) : Int) fun s3 h4 =>
  NilP p0 fun a5 =>
  Ld .s h4 ((a5.add 1).add 0) fun x6 =>
  Cpy ⟨none, 23, 1, 8⟩ h4 s3 x6 fun n7 h8 =>
  Q s3 h8)
noncomputable def F72 := Seal @B72
theorem F72_eq : @F72 = @B72 := Seal_eq _
noncomputable def E72 : Ent Try.prog := mkEnt tabOk 72 Try.f72 (Try.f72.body.getD .skip) Try.func72 (by kernel_rfl)
  []
  ⟨[], [], []⟩
  [.one .p] (by kernel_rfl)
  (fun x K h => F72 x.1 (fun r1 h' => K (.slice r1.a r1.len r1.cap) h') h)
  (fun x K h => B72 x.1 (fun r1 h' => K (.slice r1.a r1.len r1.cap) h') h)
  (by rw [F72_eq]) (fun x K h => by kernel_rfl)

/-- pantry/pantryref08.Same -/
def B113 (p0 : Sl) (p1 : Sl) (Q : Bool → H → Prop) (h : H) : Prop :=
  Br (((p0.len : Nat) : Int) != ((p1.len : Nat) : Int))
  (Q false h)
  (LoopM (σ := Int × Unit) (fun self1 z2 h3 =>
  Br (decide (z2.1 < ((p0.len : Nat) : Int)))
  (LetI z2.1 fun n4 =>
  IdxS p0.a p0.len n4 fun a5 =>
  Ld (.i .u64) h3 ((a5.add (Int.toNat n4 * 1)).add 0) fun x6 =>
  IdxS p1.a p1.len n4 fun a7 =>
  Ld (.i .u64) h3 ((a7.add (Int.toNat n4 * 1)).add 0) fun x8 =>
  Br (x6 != x8)
  (Q false h3)
  (self1 ((IntKind.wrap .i64 (z2.1 + 1)), ()) h3))
  (Q true h3)) (0, ()) h)
noncomputable def F113 := Seal @B113
theorem F113_eq : @F113 = @B113 := Seal_eq _
noncomputable def E113 : Ent Try.prog := mkEnt tabOk 113 Try.f113 (Try.f113.body.getD .skip) Try.func113 (by kernel_rfl)
  []
  ⟨[], [(4, [(13, .one (.i .i64))])], [(6, (.q 0 (.q 1 (.q 2 (.q 3 (.q 4 (.q 5 (.q 6 (.q 7 (.q 8 .done))))))))))]⟩
  [.one .s, .one .s] (by kernel_rfl)
  (fun x K h => F113 x.1 x.2.1 (fun r1 h' => K (.bool r1) h') h)
  (fun x K h => B113 x.1 x.2.1 (fun r1 h' => K (.bool r1) h') h)
  (by rw [F113_eq]) (fun x K h => by kernel_rfl)

/-- (*pantry/slots.Slots).Spoil -/
def B71 (p0 : Option Addr) (p1 : Int) (Q : Bool → H → Prop) (h : H) : Prop :=
  JoinM (σ := Unit) (fun J1 =>
  F73 p0 p1 (fun r4 h5 =>
  LetI r4 fun n6 =>
  Br (decide (n6 < 0))
  (Q false h5)
  (Br (decide (n6 > 1))
  (Q false h5)
  (J1 (()) h5))) h)
  (fun y2 h3 =>
  NilP p0 fun a7 =>
  Ld .s h3 ((a7.add 1).add 0) fun x8 =>
  F157 x8 p1 (fun  h9 =>
  NilP p0 fun a10 =>
  Ld .s h9 ((a10.add 2).add 0) fun x11 =>
  F157 x11 p1 (fun  h12 =>
  Q true h12) h9) h3)
noncomputable def F71 := Seal @B71
theorem F71_eq : @F71 = @B71 := Seal_eq _
noncomputable def E71 : Ent Try.prog := mkEnt tabOk 71 Try.f71 (Try.f71.body.getD .skip) Try.func71 (by kernel_rfl)
  [E73, E157]
  ⟨[(4, [])], [], []⟩
  [.one .p, .one (.i .i64)] (by kernel_rfl)
  (fun x K h => F71 x.1 x.2.1 (fun r1 h' => K (.bool r1) h') h)
  (fun x K h => B71 x.1 x.2.1 (fun r1 h' => K (.bool r1) h') h)
  (by rw [F71_eq]) (fun x K h => by kernel_rfl)

/-- pantry/pantryref08.New -/
def B105 (p0 : Int) (Q : Option Addr → H → Prop) (h : H) : Prop :=
  JoinM (σ := Unit) (fun J1 =>
  Br (decide (p0 < 0))
  (Q none h)
  (Br (decide (p0 > 256))
  (Q none h)
  (J1 (()) h)))
  (fun y2 h3 =>
  Mk Try.prog ⟨none, 3, 1, 8⟩ h3 p0 p0 fun s4 h5 =>
  Nw h5 #[(.slice s4.a s4.len s4.cap)] 222 fun a6 h7 =>
  Q (some a6) h7)
noncomputable def F105 := Seal @B105
theorem F105_eq : @F105 = @B105 := Seal_eq _
noncomputable def E105 : Ent Try.prog := mkEnt tabOk 105 Try.f105 (Try.f105.body.getD .skip) Try.func105 (by kernel_rfl)
  []
  ⟨[(3, [])], [], []⟩
  [.one (.i .i64)] (by kernel_rfl)
  (fun x K h => F105 x.1 (fun r1 h' => K (.pointer r1) h') h)
  (fun x K h => B105 x.1 (fun r1 h' => K (.pointer r1) h') h)
  (by rw [F105_eq]) (fun x K h => by kernel_rfl)

/-- (*pantry/pantryref08.Slots).set -/
def B181 (p0 : Option Addr) (p1 : Int) (p2 : Int) (Q : H → Prop) (h : H) : Prop :=
  Nw h #[] 3 fun a1 h2 =>
  NilP p0 fun a3 =>
  Ld .s h2 ((a3.add 0).add 0) fun x4 =>
  App Try.prog ⟨none, 3, 1, 8⟩ h2 ⟨(some a1), 0, 0⟩ x4 fun s5 h6 =>
  NilP p0 fun a7 =>
  St h6 ((a7.add 0).add 0) (.slice s5.a s5.len s5.cap) fun h8 =>
  NilP p0 fun a9 =>
  Ld .s h8 ((a9.add 0).add 0) fun x10 =>
  IdxS x10.a x10.len p1 fun a11 =>
  St h8 ((a11.add (Int.toNat p1 * 1)).add 0) (.int .i64 p2) fun h12 =>
  Q  h12
noncomputable def F181 := Seal @B181
theorem F181_eq : @F181 = @B181 := Seal_eq _
noncomputable def E181 : Ent Try.prog := mkEnt tabOk 181 Try.f181 (Try.f181.body.getD .skip) Try.func181 (by kernel_rfl)
  []
  ⟨[], [], []⟩
  [.one .p, .one (.i .i64), .one (.i .i64)] (by kernel_rfl)
  (fun x K h => F181 x.1 x.2.1 x.2.2.1 (fun  h' => K (.tuple #[]) h') h)
  (fun x K h => B181 x.1 x.2.1 x.2.2.1 (fun  h' => K (.tuple #[]) h') h)
  (by rw [F181_eq]) (fun x K h => by kernel_rfl)

/-- (*pantry/pantryref08.Slots).TakeRun -/
def B107 (p0 : Option Addr) (p1 : Int) (Q : Int → Bool → H → Prop) (h : H) : Prop :=
  LoopM (σ := Int × Unit) (fun self1 z2 h3 =>
  JoinM (σ := Unit) (fun J4 =>
  Br (decide (p1 ≥ 1))
  (NilP p0 fun a7 =>
  Ld .s h3 ((a7.add 0).add 0) fun x8 =>
  Br (decide (p1 ≤ (IntKind.wrap .i64 (((x8.len : Nat) : Int) - z2.1))))
  (J4 (()) h3)
  (Q 0 false h3))
  (Q 0 false h3))
  (fun y5 h6 =>
  LetI z2.1 fun n9 =>
  LoopM (σ := Bool × Int × Unit) (fun self10 z11 h12 =>
  Br (decide (z11.2.1 < (IntKind.wrap .i64 (z2.1 + p1))))
  (Br z11.1
  (NilP p0 fun a13 =>
  Ld .s h12 ((a13.add 0).add 0) fun x14 =>
  IdxS x14.a x14.len z11.2.1 fun a15 =>
  Ld (.i .i64) h12 ((a15.add (Int.toNat z11.2.1 * 1)).add 0) fun x16 =>
  LetI (IntKind.wrap .i64 (z11.2.1 + 1)) fun n17 =>
  self10 ((x16 == 0), n17, ()) h12)
  (LetI (IntKind.wrap .i64 (z11.2.1 + 1)) fun n18 =>
  self10 (false, n18, ()) h12))
  (Br z11.1
  (LetI z2.1 fun n19 =>
  LoopM (σ := Int × Unit) (fun self20 z21 h22 =>
  Br (decide (z21.1 < (IntKind.wrap .i64 (z2.1 + p1))))
  (F181 p0 z21.1 1 (fun  h23 =>
  LetI (IntKind.wrap .i64 (z21.1 + 1)) fun n24 =>
  self20 (n24, ()) h23) h22)
  (LetI z2.1 fun n25 =>
  Q n25 true h22)) (n19, ()) h12)
  (LetI (IntKind.wrap .i64 (z2.1 + 1)) fun n26 =>
  self1 (n26, ()) h12))) (true, n9, ()) h6)) (0, ()) h
noncomputable def F107 := Seal @B107
theorem F107_eq : @F107 = @B107 := Seal_eq _
noncomputable def E107 : Ent Try.prog := mkEnt tabOk 107 Try.f107 (Try.f107.body.getD .skip) Try.func107 (by kernel_rfl)
  [E181]
  ⟨[(4, [])], [(2, [(6, .one (.i .i64))]), (6, [(7, .one .b), (8, .one (.i .i64))]), (11, [(9, .one (.i .i64))])], []⟩
  [.one .p, .one (.i .i64)] (by kernel_rfl)
  (fun x K h => F107 x.1 x.2.1 (fun r1 r2 h' => K (.tuple #[(.int .i64 r1), (.bool r2)]) h') h)
  (fun x K h => B107 x.1 x.2.1 (fun r1 r2 h' => K (.tuple #[(.int .i64 r1), (.bool r2)]) h') h)
  (by rw [F107_eq]) (fun x K h => by kernel_rfl)

/-- (*pantry/pantryref08.Slots).Take -/
def B106 (p0 : Option Addr) (Q : Int → Bool → H → Prop) (h : H) : Prop :=
  F107 p0 1 (fun r1 r2 h3 =>
  LetI r1 fun n4 =>
  Q n4 r2 h3) h
noncomputable def F106 := Seal @B106
theorem F106_eq : @F106 = @B106 := Seal_eq _
noncomputable def E106 : Ent Try.prog := mkEnt tabOk 106 Try.f106 (Try.f106.body.getD .skip) Try.func106 (by kernel_rfl)
  [E107]
  ⟨[], [], []⟩
  [.one .p] (by kernel_rfl)
  (fun x K h => F106 x.1 (fun r1 r2 h' => K (.tuple #[(.int .i64 r1), (.bool r2)]) h') h)
  (fun x K h => B106 x.1 (fun r1 r2 h' => K (.tuple #[(.int .i64 r1), (.bool r2)]) h') h)
  (by rw [F106_eq]) (fun x K h => by kernel_rfl)

/-- (*pantry/pantryref08.Slots).State -/
def B110 (p0 : Option Addr) (p1 : Int) (Q : Int → H → Prop) (h : H) : Prop :=
  JoinM (σ := Unit) (fun J1 =>
  Br (decide (p1 < 0))
  (Q (-1) h)
  (NilP p0 fun a4 =>
  Ld .s h ((a4.add 0).add 0) fun x5 =>
  Br (decide (p1 ≥ ((x5.len : Nat) : Int)))
  (Q (-1) h)
  (J1 (()) h)))
  (fun y2 h3 =>
  NilP p0 fun a6 =>
  Ld .s h3 ((a6.add 0).add 0) fun x7 =>
  IdxS x7.a x7.len p1 fun a8 =>
  Ld (.i .i64) h3 ((a8.add (Int.toNat p1 * 1)).add 0) fun x9 =>
  LetI x9 fun n10 =>
  Q n10 h3)
noncomputable def F110 := Seal @B110
theorem F110_eq : @F110 = @B110 := Seal_eq _
noncomputable def E110 : Ent Try.prog := mkEnt tabOk 110 Try.f110 (Try.f110.body.getD .skip) Try.func110 (by kernel_rfl)
  []
  ⟨[(3, [])], [], []⟩
  [.one .p, .one (.i .i64)] (by kernel_rfl)
  (fun x K h => F110 x.1 x.2.1 (fun r1 h' => K (.int .i64 r1) h') h)
  (fun x K h => B110 x.1 x.2.1 (fun r1 h' => K (.int .i64 r1) h') h)
  (by rw [F110_eq]) (fun x K h => by kernel_rfl)

/-- (*pantry/pantryref08.Slots).Give -/
def B108 (p0 : Option Addr) (p1 : Int) (Q : Bool → H → Prop) (h : H) : Prop :=
  F110 p0 p1 (fun r1 h2 =>
  Br (r1 != 1)
  (Q false h2)
  (F181 p0 p1 0 (fun  h3 =>
  Q true h3) h2)) h
noncomputable def F108 := Seal @B108
theorem F108_eq : @F108 = @B108 := Seal_eq _
noncomputable def E108 : Ent Try.prog := mkEnt tabOk 108 Try.f108 (Try.f108.body.getD .skip) Try.func108 (by kernel_rfl)
  [E110, E181]
  ⟨[], [], []⟩
  [.one .p, .one (.i .i64)] (by kernel_rfl)
  (fun x K h => F108 x.1 x.2.1 (fun r1 h' => K (.bool r1) h') h)
  (fun x K h => B108 x.1 x.2.1 (fun r1 h' => K (.bool r1) h') h)
  (by rw [F108_eq]) (fun x K h => by kernel_rfl)

/-- (*pantry/pantryref08.Slots).Spoil -/
def B109 (p0 : Option Addr) (p1 : Int) (Q : Bool → H → Prop) (h : H) : Prop :=
  JoinM (σ := Unit) (fun J1 =>
  F110 p0 p1 (fun r4 h5 =>
  Br (r4 != 0)
  (F110 p0 p1 (fun r6 h7 =>
  Br (r6 != 1)
  (Q false h7)
  (J1 (()) h7)) h5)
  (J1 (()) h5)) h)
  (fun y2 h3 =>
  F181 p0 p1 2 (fun  h8 =>
  Q true h8) h3)
noncomputable def F109 := Seal @B109
theorem F109_eq : @F109 = @B109 := Seal_eq _
noncomputable def E109 : Ent Try.prog := mkEnt tabOk 109 Try.f109 (Try.f109.body.getD .skip) Try.func109 (by kernel_rfl)
  [E110, E181]
  ⟨[(3, [])], [], []⟩
  [.one .p, .one (.i .i64)] (by kernel_rfl)
  (fun x K h => F109 x.1 x.2.1 (fun r1 h' => K (.bool r1) h') h)
  (fun x K h => B109 x.1 x.2.1 (fun r1 h' => K (.bool r1) h') h)
  (by rw [F109_eq]) (fun x K h => by kernel_rfl)

/-- math/bits.OnesCount64 -/
def B203 (p0 : Int) (Q : Int → H → Prop) (h : H) : Prop :=
  Asr ((0 : Int) ≤ 1)
  (LetI (IntKind.wrap .u64 ((bAnd .u64 (shR .u64 p0 1) 6148914691236517205) + (bAnd .u64 p0 6148914691236517205))) fun n1 =>
  Asr ((0 : Int) ≤ 2)
  (LetI (IntKind.wrap .u64 ((bAnd .u64 (shR .u64 n1 2) 3689348814741910323) + (bAnd .u64 n1 3689348814741910323))) fun n2 =>
  Asr ((0 : Int) ≤ 4)
  (LetI (bAnd .u64 (IntKind.wrap .u64 ((shR .u64 n2 4) + n2)) 1085102592571150095) fun n3 =>
  Asr ((0 : Int) ≤ 8)
  (LetI (IntKind.wrap .u64 (n3 + (shR .u64 n3 8))) fun n4 =>
  Asr ((0 : Int) ≤ 16)
  (LetI (IntKind.wrap .u64 (n4 + (shR .u64 n4 16))) fun n5 =>
  Asr ((0 : Int) ≤ 32)
  (LetI (IntKind.wrap .u64 (n5 + (shR .u64 n5 32))) fun n6 =>
  LetI (bAnd .i64 (IntKind.wrap .i64 n6) 127) fun n7 =>
  Q n7 h))))))
noncomputable def F203 := Seal @B203
theorem F203_eq : @F203 = @B203 := Seal_eq _
noncomputable def E203 : Ent Try.prog := mkEnt tabOk 203 Try.f203 (Try.f203.body.getD .skip) Try.func203 (by kernel_rfl)
  []
  ⟨[], [], []⟩
  [.one (.i .u64)] (by kernel_rfl)
  (fun x K h => F203 x.1 (fun r1 h' => K (.int .i64 r1) h') h)
  (fun x K h => B203 x.1 (fun r1 h' => K (.int .i64 r1) h') h)
  (by rw [F203_eq]) (fun x K h => by kernel_rfl)

/-- pantry/slots.ones -/
def B182 (p0 : Sl) (Q : Int → H → Prop) (h : H) : Prop :=
  LoopM (σ := Int × Int × Unit) (fun self1 z2 h3 =>
  Br (decide (z2.2.1 < ((p0.len : Nat) : Int)))
  (IdxS p0.a p0.len z2.2.1 fun a4 =>
  Ld (.i .u64) h3 ((a4.add (Int.toNat z2.2.1 * 1)).add 0) fun x5 =>
  LetI x5 fun n6 =>
  F203 n6 (fun r7 h8 =>
  LetI (IntKind.wrap .i64 (z2.1 + r7)) fun n9 =>
  self1 (n9, (IntKind.wrap .i64 (z2.2.1 + 1)), ()) h8) h3)
  (LetI z2.1 fun n10 =>
  Q n10 h3)) (0, 0, ()) h
noncomputable def F182 := Seal @B182
theorem F182_eq : @F182 = @B182 := Seal_eq _
noncomputable def E182 : Ent Try.prog := mkEnt tabOk 182 Try.f182 (Try.f182.body.getD .skip) Try.func182 (by kernel_rfl)
  [E203]
  ⟨[], [(3, [(3, .one (.i .i64)), (8, .one (.i .i64))])], []⟩
  [.one .s] (by kernel_rfl)
  (fun x K h => F182 x.1 (fun r1 h' => K (.int .i64 r1) h') h)
  (fun x K h => B182 x.1 (fun r1 h' => K (.int .i64 r1) h') h)
  (by rw [F182_eq]) (fun x K h => by kernel_rfl)

/-- (*pantry/slots.Slots).Count -/
def B111 (p0 : Option Addr) (p1 : Int) (Q : Int → H → Prop) (h : H) : Prop :=
  Br (Option.isNone p0)
  (Q 0 h)
  (Br (p1 == 0)
  (NilP p0 fun a1 =>
  Ld (.i .i64) h ((a1.add 0).add 0) fun x2 =>
  NilP p0 fun a3 =>
  Ld .s h ((a3.add 1).add 0) fun x4 =>
  QC [.one (.i .i64)] h (fun K' h' => F182 x4 (fun r6 h'' => K' (.int .i64 r6) h'') h') fun x5 =>
  LetI (IntKind.wrap .i64 (x2 - x5.1)) fun n7 =>
  Q n7 h)
  (Br (p1 == 1)
  (NilP p0 fun a8 =>
  Ld .s h ((a8.add 1).add 0) fun x9 =>
  QC [.one (.i .i64)] h (fun K' h' => F182 x9 (fun r11 h'' => K' (.int .i64 r11) h'') h') fun x10 =>
  NilP p0 fun a12 =>
  Ld .s h ((a12.add 2).add 0) fun x13 =>
  QC [.one (.i .i64)] h (fun K' h' => F182 x13 (fun r15 h'' => K' (.int .i64 r15) h'') h') fun x14 =>
  LetI (IntKind.wrap .i64 (x10.1 - x14.1)) fun n16 =>
  Q n16 h)
  (Br (p1 == 2)
  (NilP p0 fun a17 =>
  Ld .s h ((a17.add 2).add 0) fun x18 =>
  F182 x18 (fun r19 h20 =>
  LetI r19 fun n21 =>
  Q n21 h20) h)
  (Q 0 h))))
noncomputable def F111 := Seal @B111
theorem F111_eq : @F111 = @B111 := Seal_eq _
noncomputable def E111 : Ent Try.prog := mkEnt tabOk 111 Try.f111 (Try.f111.body.getD .skip) Try.func111 (by kernel_rfl)
  [E182]
  ⟨[], [], [(5, (.q 0 (.q 1 (.q 2 (.q 3 (.q 4 (.q 5 (.q 6 (.q 7 (.qc 8 [.one (.i .i64)] (.q 9 (.q 10 .done)))))))))))), (7, (.q 0 (.q 1 (.q 2 (.q 3 (.qc 4 [.one (.i .i64)] (.q 5 (.q 6 (.q 7 (.q 8 (.qc 9 [.one (.i .i64)] (.q 10 (.q 11 .done)))))))))))))]⟩
  [.one .p, .one (.i .i64)] (by kernel_rfl)
  (fun x K h => F111 x.1 x.2.1 (fun r1 h' => K (.int .i64 r1) h') h)
  (fun x K h => B111 x.1 x.2.1 (fun r1 h' => K (.int .i64 r1) h') h)
  (by rw [F111_eq]) (fun x K h => by kernel_rfl)

/-- (*pantry/pantryref08.Slots).Count -/
def B112 (p0 : Option Addr) (p1 : Int) (Q : Int → H → Prop) (h : H) : Prop :=
  NilP p0 fun a1 =>
  Ld .s h ((a1.add 0).add 0) fun x2 =>
  LoopM (σ := Int × Int × Unit) (fun self3 z4 h5 =>
  Br (decide (z4.2.1 < ((x2.len : Nat) : Int)))
  (IdxS x2.a x2.len z4.2.1 fun a6 =>
  Ld (.i .i64) h5 ((a6.add (Int.toNat z4.2.1 * 1)).add 0) fun x7 =>
  LetI x7 fun n8 =>
  Br (n8 == p1)
  (LetI (IntKind.wrap .i64 (z4.1 + 1)) fun n9 =>
  self3 (n9, (IntKind.wrap .i64 (z4.2.1 + 1)), ()) h5)
  (self3 (z4.1, (IntKind.wrap .i64 (z4.2.1 + 1)), ()) h5))
  (LetI z4.1 fun n10 =>
  Q n10 h5)) (0, 0, ()) h
noncomputable def F112 := Seal @B112
theorem F112_eq : @F112 = @B112 := Seal_eq _
noncomputable def E112 : Ent Try.prog := mkEnt tabOk 112 Try.f112 (Try.f112.body.getD .skip) Try.func112 (by kernel_rfl)
  []
  ⟨[], [(3, [(5, .one (.i .i64)), (13, .one (.i .i64))])], []⟩
  [.one .p, .one (.i .i64)] (by kernel_rfl)
  (fun x K h => F112 x.1 x.2.1 (fun r1 h' => K (.int .i64 r1) h') h)
  (fun x K h => B112 x.1 x.2.1 (fun r1 h' => K (.int .i64 r1) h') h)
  (by rw [F112_eq]) (fun x K h => by kernel_rfl)

/-- (*pantry/pantryref08.Slots).Words -/
def B114 (p0 : Option Addr) (Q : Sl → H → Prop) (h : H) : Prop :=
  NilP p0 fun a1 =>
  Ld .s h ((a1.add 0).add 0) fun x2 =>
  Asr ((64 : Int) ≠ 0)
  (Mk Try.prog ⟨none, 23, 1, 8⟩ h (IntKind.wrap .i64 (Int.tdiv (IntKind.wrap .i64 (((x2.len : Nat) : Int) + 63)) 64)) (IntKind.wrap .i64 (Int.tdiv (IntKind.wrap .i64 (((x2.len : Nat) : Int) + 63)) 64)) fun s3 h4 =>
  NilP p0 fun a5 =>
  Ld .s h4 ((a5.add 0).add 0) fun x6 =>
  LoopM (σ := Int × Unit) (fun self7 z8 h9 =>
  Br (decide (z8.1 < ((x6.len : Nat) : Int)))
  (IdxS x6.a x6.len z8.1 fun a10 =>
  Ld (.i .i64) h9 ((a10.add (Int.toNat z8.1 * 1)).add 0) fun x11 =>
  LetI z8.1 fun n12 =>
  LetI x11 fun n13 =>
  Br (n13 != 0)
  (Asr ((64 : Int) ≠ 0)
  (IdxS s3.a s3.len (IntKind.wrap .i64 (Int.tdiv n12 64)) fun a14 =>
  Ld (.i .u64) h9 ((a14.add (Int.toNat (IntKind.wrap .i64 (Int.tdiv n12 64)) * 1)).add 0) fun x15 =>
  Asr ((64 : Int) ≠ 0)
  (Asr ((0 : Int) ≤ (IntKind.wrap .u64 (Int.tmod n12 64)))
  (IdxS s3.a s3.len (IntKind.wrap .i64 (Int.tdiv n12 64)) fun a16 =>
  St h9 ((a16.add (Int.toNat (IntKind.wrap .i64 (Int.tdiv n12 64)) * 1)).add 0) (.int .u64 (bOr .u64 x15 (shL .u64 1 (IntKind.wrap .u64 (Int.tmod n12 64))))) fun h17 =>
  self7 ((IntKind.wrap .i64 (z8.1 + 1)), ()) h17))))
  (self7 ((IntKind.wrap .i64 (z8.1 + 1)), ()) h9))
  (Q s3 h9)) (0, ()) h4)
noncomputable def F114 := Seal @B114
theorem F114_eq : @F114 = @B114 := Seal_eq _
noncomputable def E114 : Ent Try.prog := mkEnt tabOk 114 Try.f114 (Try.f114.body.getD .skip) Try.func114 (by kernel_rfl)
  []
  ⟨[], [(3, [(19, .one (.i .i64))])], []⟩
  [.one .p] (by kernel_rfl)
  (fun x K h => F114 x.1 (fun r1 h' => K (.slice r1.a r1.len r1.cap) h') h)
  (fun x K h => B114 x.1 (fun r1 h' => K (.slice r1.a r1.len r1.cap) h') h)
  (by rw [F114_eq]) (fun x K h => by kernel_rfl)

end Go.Proofs.Ytfijchofplkcoaa
