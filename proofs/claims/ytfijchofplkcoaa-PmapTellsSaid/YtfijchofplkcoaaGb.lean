/-
  PRINTED BY wip/tools/emit.py: what each Go function comes to, as a predicate over the heap (the kernel holds each against the translated program).
-/
import Derived.Test.YtfijchofplkcoaaGa
set_option linter.unusedVariables false
set_option maxRecDepth 100000
namespace Go.Proofs.Ytfijchofplkcoaa

/-- pantry/phys.New -/
def B61 (p0 : Int) (Q : Option Addr → H → Prop) (h : H) : Prop :=
  JoinM (σ := Unit) (fun J1 =>
  Br (decide (p0 < 1))
  (Q none h)
  (Br (decide (p0 > 256))
  (Q none h)
  (J1 (()) h)))
  (fun y2 h3 =>
  Mk Try.prog ⟨none, 205, 4096, 4096⟩ h3 p0 p0 fun s4 h5 =>
  Nw h5 #[(.slice s4.a s4.len s4.cap)] 101 fun a6 h7 =>
  Q (some a6) h7)
noncomputable def F61 := Seal @B61
theorem F61_eq : @F61 = @B61 := Seal_eq _
noncomputable def E61 : Ent Try.prog := mkEnt tabOk 61 Try.f61 (Try.f61.body.getD .skip) Try.func61 (by kernel_rfl)
  []
  ⟨[(3, [])], [], []⟩
  [.one (.i .i64)] (by kernel_rfl)
  (fun x K h => F61 x.1 (fun r1 h' => K (.pointer r1) h') h)
  (fun x K h => B61 x.1 (fun r1 h' => K (.pointer r1) h') h)
  (by rw [F61_eq]) (fun x K h => by kernel_rfl)

/-- (*pantry/phys.Memory).Frames -/
def B93 (p0 : Option Addr) (Q : Int → H → Prop) (h : H) : Prop :=
  Br (Option.isNone p0)
  (Q 0 h)
  (NilP p0 fun a1 =>
  Ld .s h ((a1.add 0).add 0) fun x2 =>
  LetI ((x2.len : Nat) : Int) fun n3 =>
  Q n3 h)
noncomputable def F93 := Seal @B93
theorem F93_eq : @F93 = @B93 := Seal_eq _
noncomputable def E93 : Ent Try.prog := mkEnt tabOk 93 Try.f93 (Try.f93.body.getD .skip) Try.func93 (by kernel_rfl)
  []
  ⟨[], [], []⟩
  [.one .p] (by kernel_rfl)
  (fun x K h => F93 x.1 (fun r1 h' => K (.int .i64 r1) h') h)
  (fun x K h => B93 x.1 (fun r1 h' => K (.int .i64 r1) h') h)
  (by rw [F93_eq]) (fun x K h => by kernel_rfl)

/-- (*pantry/phys.Memory).at -/
def B155 (p0 : Option Addr) (p1 : Int) (Q : Option Addr → H → Prop) (h : H) : Prop :=
  JoinM (σ := Unit) (fun J1 =>
  Br (decide (p1 < 0))
  (Q none h)
  (F93 p0 (fun r4 h5 =>
  Br (decide (p1 ≥ r4))
  (Q none h5)
  (J1 (()) h5)) h))
  (fun y2 h3 =>
  NilP p0 fun a6 =>
  Ld .s h3 ((a6.add 0).add 0) fun x7 =>
  IdxS x7.a x7.len p1 fun a8 =>
  Q (some (a8.add (Int.toNat p1 * 4096))) h3)
noncomputable def F155 := Seal @B155
theorem F155_eq : @F155 = @B155 := Seal_eq _
noncomputable def E155 : Ent Try.prog := mkEnt tabOk 155 Try.f155 (Try.f155.body.getD .skip) Try.func155 (by kernel_rfl)
  [E93]
  ⟨[(3, [])], [], []⟩
  [.one .p, .one (.i .i64)] (by kernel_rfl)
  (fun x K h => F155 x.1 x.2.1 (fun r1 h' => K (.pointer r1) h') h)
  (fun x K h => B155 x.1 x.2.1 (fun r1 h' => K (.pointer r1) h') h)
  (by rw [F155_eq]) (fun x K h => by kernel_rfl)

/-- (*pantry/phys.Memory).cell -/
def B164 (p0 : Option Addr) (p1 : Int) (p2 : Int) (Q : Sl → H → Prop) (h : H) : Prop :=
  F155 p0 p1 (fun r1 h2 =>
  JoinM (σ := Unit) (fun J3 =>
  Br (Option.isNone r1)
  (Q ⟨none, 0, 0⟩ h2)
  (Br (decide (p2 < 0))
  (Q ⟨none, 0, 0⟩ h2)
  (Br (decide (p2 ≥ 512))
  (Q ⟨none, 0, 0⟩ h2)
  (J3 (()) h2))))
  (fun y4 h5 =>
  NilP r1 fun a6 =>
  SlP ⟨some a6, 4096, 4096⟩ (IntKind.wrap .i64 (8 * p2)) (IntKind.wrap .i64 ((IntKind.wrap .i64 (8 * p2)) + 8)) 1 fun s7 =>
  Q s7 h5)) h
noncomputable def F164 := Seal @B164
theorem F164_eq : @F164 = @B164 := Seal_eq _
noncomputable def E164 : Ent Try.prog := mkEnt tabOk 164 Try.f164 (Try.f164.body.getD .skip) Try.func164 (by kernel_rfl)
  [E155]
  ⟨[(4, [])], [], []⟩
  [.one .p, .one (.i .i64), .one (.i .i64)] (by kernel_rfl)
  (fun x K h => F164 x.1 x.2.1 x.2.2.1 (fun r1 h' => K (.slice r1.a r1.len r1.cap) h') h)
  (fun x K h => B164 x.1 x.2.1 x.2.2.1 (fun r1 h' => K (.slice r1.a r1.len r1.cap) h') h)
  (by rw [F164_eq]) (fun x K h => by kernel_rfl)

/-- (*pantry/phys.Memory).SetWord -/
def B82 (p0 : Option Addr) (p1 : Int) (p2 : Int) (p3 : Int) (Q : Bool → H → Prop) (h : H) : Prop :=
  F164 p0 p1 p2 (fun r1 h2 =>
  Br (Option.isNone r1.a)
  (Q false h2)
  (LoopM (σ := Int × Int × Unit) (fun self3 z4 h5 =>
  Br (decide (z4.2.1 < ((r1.len : Nat) : Int)))
  (LetI z4.2.1 fun n6 =>
  IdxS r1.a r1.len n6 fun a7 =>
  St h5 ((a7.add (Int.toNat n6 * 1)).add 0) (.int .u8 (IntKind.wrap .u8 z4.1)) fun h8 =>
  Asr ((0 : Int) ≤ 8)
  (LetI (shR .u64 z4.1 8) fun n9 =>
  self3 (n9, (IntKind.wrap .i64 (z4.2.1 + 1)), ()) h8))
  (Q true h5)) (p3, 0, ()) h2)) h
noncomputable def F82 := Seal @B82
theorem F82_eq : @F82 = @B82 := Seal_eq _
noncomputable def E82 : Ent Try.prog := mkEnt tabOk 82 Try.f82 (Try.f82.body.getD .skip) Try.func82 (by kernel_rfl)
  [E164]
  ⟨[], [(5, [(3, .one (.i .u64)), (19, .one (.i .i64))])], []⟩
  [.one .p, .one (.i .i64), .one (.i .i64), .one (.i .u64)] (by kernel_rfl)
  (fun x K h => F82 x.1 x.2.1 x.2.2.1 x.2.2.2.1 (fun r1 h' => K (.bool r1) h') h)
  (fun x K h => B82 x.1 x.2.1 x.2.2.1 x.2.2.2.1 (fun r1 h' => K (.bool r1) h') h)
  (by rw [F82_eq]) (fun x K h => by kernel_rfl)

/-- (*pantry/phys.Memory).Byte -/
def B84 (p0 : Option Addr) (p1 : Int) (p2 : Int) (Q : Int → Bool → H → Prop) (h : H) : Prop :=
  F155 p0 p1 (fun r1 h2 =>
  JoinM (σ := Unit) (fun J3 =>
  Br (Option.isNone r1)
  (Q 0 false h2)
  (Br (decide (p2 < 0))
  (Q 0 false h2)
  (Br (decide (p2 ≥ 4096))
  (Q 0 false h2)
  (J3 (()) h2))))
  (fun y4 h5 =>
  NilP r1 fun a6 =>
  IdxA 4096 p2
  (Ld (.i .u8) h5 ((a6.add (Int.toNat p2 * 1)).add 0) fun x7 =>
  LetI x7 fun n8 =>
  Q n8 true h5))) h
noncomputable def F84 := Seal @B84
theorem F84_eq : @F84 = @B84 := Seal_eq _
noncomputable def E84 : Ent Try.prog := mkEnt tabOk 84 Try.f84 (Try.f84.body.getD .skip) Try.func84 (by kernel_rfl)
  [E155]
  ⟨[(4, [])], [], []⟩
  [.one .p, .one (.i .i64), .one (.i .i64)] (by kernel_rfl)
  (fun x K h => F84 x.1 x.2.1 x.2.2.1 (fun r1 r2 h' => K (.tuple #[(.int .u8 r1), (.bool r2)]) h') h)
  (fun x K h => B84 x.1 x.2.1 x.2.2.1 (fun r1 r2 h' => K (.tuple #[(.int .u8 r1), (.bool r2)]) h') h)
  (by rw [F84_eq]) (fun x K h => by kernel_rfl)

/-- (*pantry/phys.Memory).Fill -/
def B63 (p0 : Option Addr) (p1 : Int) (p2 : Sl) (Q : Bool → H → Prop) (h : H) : Prop :=
  F155 p0 p1 (fun r1 h2 =>
  Br (Option.isNone r1)
  (Q false h2)
  (Nw h2 (zeroC Try.prog 205) 205 fun a3 h4 =>
  SlP ⟨some a3, 4096, 4096⟩ 0 4096 1 fun s5 =>
  Cpy ⟨none, 5, 1, 1⟩ h4 s5 p2 fun n6 h7 =>
  LdRow .u8 4096 h7 a3 fun x8 =>
  NilP r1 fun a9 =>
  StRow h7 a9 4096 ((x8).map (Value.int .u8)).toArray fun h10 =>
  Q true h10)) h
noncomputable def F63 := Seal @B63
theorem F63_eq : @F63 = @B63 := Seal_eq _
noncomputable def E63 : Ent Try.prog := mkEnt tabOk 63 Try.f63 (Try.f63.body.getD .skip) Try.func63 (by kernel_rfl)
  [E155]
  ⟨[], [], []⟩
  [.one .p, .one (.i .i64), .one .s] (by kernel_rfl)
  (fun x K h => F63 x.1 x.2.1 x.2.2.1 (fun r1 h' => K (.bool r1) h') h)
  (fun x K h => B63 x.1 x.2.1 x.2.2.1 (fun r1 h' => K (.bool r1) h') h)
  (by rw [F63_eq]) (fun x K h => by kernel_rfl)

/-- (*pantry/phys.Memory).Page -/
def B64 (p0 : Option Addr) (p1 : Int) (Q : Sl → H → Prop) (h : H) : Prop :=
  F155 p0 p1 (fun r1 h2 =>
  Br (Option.isNone r1)
  (Q ⟨none, 0, 0⟩ h2)
  (NilP r1 fun a3 =>
  SlP ⟨some a3, 4096, 4096⟩ 0 4096 1 fun s4 =>
  App Try.prog ⟨none, 5, 1, 1⟩ h2 ⟨none, 0, 0⟩ s4 fun s5 h6 =>
  Q s5 h6)) h
noncomputable def F64 := Seal @B64
theorem F64_eq : @F64 = @B64 := Seal_eq _
noncomputable def E64 : Ent Try.prog := mkEnt tabOk 64 Try.f64 (Try.f64.body.getD .skip) Try.func64 (by kernel_rfl)
  [E155]
  ⟨[], [], []⟩
  [.one .p, .one (.i .i64)] (by kernel_rfl)
  (fun x K h => F64 x.1 x.2.1 (fun r1 h' => K (.slice r1.a r1.len r1.cap) h') h)
  (fun x K h => B64 x.1 x.2.1 (fun r1 h' => K (.slice r1.a r1.len r1.cap) h') h)
  (by rw [F64_eq]) (fun x K h => by kernel_rfl)

/-- pantry/pantryref01.Bytes -/
def B65 (p0 : Sl) (p1 : Sl) (Q : Bool → H → Prop) (h : H) : Prop :=
  LdStr h p0 fun b1 =>
  LdStr h p1 fun b2 =>
  Q (b1.toList == b2.toList) h
noncomputable def F65 := Seal @B65
theorem F65_eq : @F65 = @B65 := Seal_eq _
noncomputable def E65 : Ent Try.prog := mkEnt tabOk 65 Try.f65 (Try.f65.body.getD .skip) Try.func65 (by kernel_rfl)
  []
  ⟨[], [], []⟩
  [.one .s, .one .s] (by kernel_rfl)
  (fun x K h => F65 x.1 x.2.1 (fun r1 h' => K (.bool r1) h') h)
  (fun x K h => B65 x.1 x.2.1 (fun r1 h' => K (.bool r1) h') h)
  (by rw [F65_eq]) (fun x K h => by kernel_rfl)

/-- (*pantry/phys.Memory).SetByte -/
def B74 (p0 : Option Addr) (p1 : Int) (p2 : Int) (p3 : Int) (Q : Bool → H → Prop) (h : H) : Prop :=
  F155 p0 p1 (fun r1 h2 =>
  JoinM (σ := Unit) (fun J3 =>
  Br (Option.isNone r1)
  (Q false h2)
  (Br (decide (p2 < 0))
  (Q false h2)
  (Br (decide (p2 ≥ 4096))
  (Q false h2)
  (J3 (()) h2))))
  (fun y4 h5 =>
  NilP r1 fun a6 =>
  IdxA 4096 p2
  (St h5 ((a6.add (Int.toNat p2 * 1)).add 0) (.int .u8 p3) fun h7 =>
  Q true h7))) h
noncomputable def F74 := Seal @B74
theorem F74_eq : @F74 = @B74 := Seal_eq _
noncomputable def E74 : Ent Try.prog := mkEnt tabOk 74 Try.f74 (Try.f74.body.getD .skip) Try.func74 (by kernel_rfl)
  [E155]
  ⟨[(4, [])], [], []⟩
  [.one .p, .one (.i .i64), .one (.i .i64), .one (.i .u8)] (by kernel_rfl)
  (fun x K h => F74 x.1 x.2.1 x.2.2.1 x.2.2.2.1 (fun r1 h' => K (.bool r1) h') h)
  (fun x K h => B74 x.1 x.2.1 x.2.2.1 x.2.2.2.1 (fun r1 h' => K (.bool r1) h') h)
  (by rw [F74_eq]) (fun x K h => by kernel_rfl)

/-- (*pantry/phys.Memory).Zero -/
def B87 (p0 : Option Addr) (p1 : Int) (Q : Bool → H → Prop) (h : H) : Prop :=
  F63 p0 p1 ⟨none, 0, 0⟩ (fun r1 h2 =>
  Q r1 h2) h
noncomputable def F87 := Seal @B87
theorem F87_eq : @F87 = @B87 := Seal_eq _
noncomputable def E87 : Ent Try.prog := mkEnt tabOk 87 Try.f87 (Try.f87.body.getD .skip) Try.func87 (by kernel_rfl)
  [E63]
  ⟨[], [], []⟩
  [.one .p, .one (.i .i64)] (by kernel_rfl)
  (fun x K h => F87 x.1 x.2.1 (fun r1 h' => K (.bool r1) h') h)
  (fun x K h => B87 x.1 x.2.1 (fun r1 h' => K (.bool r1) h') h)
  (by rw [F87_eq]) (fun x K h => by kernel_rfl)

/-- (*pantry/phys.Memory).Copy -/
def B85 (p0 : Option Addr) (p1 : Int) (p2 : Int) (Q : Bool → H → Prop) (h : H) : Prop :=
  F155 p0 p1 (fun r1 h2 =>
  F155 p0 p2 (fun r3 h4 =>
  JoinM (σ := Unit) (fun J5 =>
  Br (Option.isNone r1)
  (Q false h4)
  (Br (Option.isNone r3)
  (Q false h4)
  (J5 (()) h4)))
  (fun y6 h7 =>
  NilP r3 fun a8 =>
  LdRow .u8 4096 h7 a8 fun x9 =>
  NilP r1 fun a10 =>
  StRow h7 a10 4096 ((x9).map (Value.int .u8)).toArray fun h11 =>
  Q true h11)) h2) h
noncomputable def F85 := Seal @B85
theorem F85_eq : @F85 = @B85 := Seal_eq _
noncomputable def E85 : Ent Try.prog := mkEnt tabOk 85 Try.f85 (Try.f85.body.getD .skip) Try.func85 (by kernel_rfl)
  [E155]
  ⟨[(4, [])], [], []⟩
  [.one .p, .one (.i .i64), .one (.i .i64)] (by kernel_rfl)
  (fun x K h => F85 x.1 x.2.1 x.2.2.1 (fun r1 h' => K (.bool r1) h') h)
  (fun x K h => B85 x.1 x.2.1 x.2.2.1 (fun r1 h' => K (.bool r1) h') h)
  (by rw [F85_eq]) (fun x K h => by kernel_rfl)

/-- (*pantry/phys.Memory).Word -/
def B83 (p0 : Option Addr) (p1 : Int) (p2 : Int) (Q : Int → Bool → H → Prop) (h : H) : Prop :=
  F164 p0 p1 p2 (fun r1 h2 =>
  Br (Option.isNone r1.a)
  (Q 0 false h2)
  (LetI (IntKind.wrap .i64 (((r1.len : Nat) : Int) - 1)) fun n3 =>
  LoopM (σ := Int × Int × Unit) (fun self4 z5 h6 =>
  Br (decide (z5.2.1 ≥ 0))
  (Asr ((0 : Int) ≤ 8)
  (IdxS r1.a r1.len z5.2.1 fun a7 =>
  Ld (.i .u8) h6 ((a7.add (Int.toNat z5.2.1 * 1)).add 0) fun x8 =>
  LetI (bOr .u64 (shL .u64 z5.1 8) (IntKind.wrap .u64 x8)) fun n9 =>
  LetI (IntKind.wrap .i64 (z5.2.1 - 1)) fun n10 =>
  self4 (n9, n10, ()) h6))
  (LetI z5.1 fun n11 =>
  Q n11 true h6)) (0, n3, ()) h2)) h
noncomputable def F83 := Seal @B83
theorem F83_eq : @F83 = @B83 := Seal_eq _
noncomputable def E83 : Ent Try.prog := mkEnt tabOk 83 Try.f83 (Try.f83.body.getD .skip) Try.func83 (by kernel_rfl)
  [E164]
  ⟨[], [(6, [(9, .one (.i .u64)), (10, .one (.i .i64))])], []⟩
  [.one .p, .one (.i .i64), .one (.i .i64)] (by kernel_rfl)
  (fun x K h => F83 x.1 x.2.1 x.2.2.1 (fun r1 r2 h' => K (.tuple #[(.int .u64 r1), (.bool r2)]) h') h)
  (fun x K h => B83 x.1 x.2.1 x.2.2.1 (fun r1 r2 h' => K (.tuple #[(.int .u64 r1), (.bool r2)]) h') h)
  (by rw [F83_eq]) (fun x K h => by kernel_rfl)

/-- (*pantry/phys.Memory).Same -/
def B86 (p0 : Option Addr) (p1 : Int) (p2 : Int) (Q : Bool → H → Prop) (h : H) : Prop :=
  F155 p0 p1 (fun r1 h2 =>
  F155 p0 p2 (fun r3 h4 =>
  Br (!(Option.isNone r1))
  (Br (!(Option.isNone r3))
  (NilP r1 fun a5 =>
  LdRow .u8 4096 h4 a5 fun x6 =>
  NilP r3 fun a7 =>
  LdRow .u8 4096 h4 a7 fun x8 =>
  Asr (IsRow .u8 4096 ((x6).map (Value.int .u8)).toArray ∧ IsRow .u8 4096 ((x8).map (Value.int .u8)).toArray)
  (Q (eqR ((x6).map (Value.int .u8)).toArray ((x8).map (Value.int .u8)).toArray) h4))
  (Q false h4))
  (Q false h4)) h2) h
noncomputable def F86 := Seal @B86
theorem F86_eq : @F86 = @B86 := Seal_eq _
noncomputable def E86 : Ent Try.prog := mkEnt tabOk 86 Try.f86 (Try.f86.body.getD .skip) Try.func86 (by kernel_rfl)
  [E155]
  ⟨[], [], [(2, (.q 0 (.q 1 (.q 2 (.q 3 (.q 4 (.q 5 (.q 6 (.q 7 (.q 8 (.q 9 (.q 10 (.q 11 (.q 12 (.q 13 (.q 14 (.q 15 .done)))))))))))))))))]⟩
  [.one .p, .one (.i .i64), .one (.i .i64)] (by kernel_rfl)
  (fun x K h => F86 x.1 x.2.1 x.2.2.1 (fun r1 h' => K (.bool r1) h') h)
  (fun x K h => B86 x.1 x.2.1 x.2.2.1 (fun r1 h' => K (.bool r1) h') h)
  (by rw [F86_eq]) (fun x K h => by kernel_rfl)

/-- pantry/pantryref01.New -/
def B88 (p0 : Int) (Q : Option Addr → H → Prop) (h : H) : Prop :=
  JoinM (σ := Unit) (fun J1 =>
  Br (decide (p0 < 1))
  (Q none h)
  (Br (decide (p0 > 256))
  (Q none h)
  (J1 (()) h)))
  (fun y2 h3 =>
  Nw h3 #[(.slice none 0 0)] 96 fun a4 h5 =>
  LoopM (σ := Int × Unit) (fun self6 z7 h8 =>
  Br (decide (z7.1 < p0))
  (Ld .s h8 ((a4.add 0).add 0) fun x9 =>
  Mk Try.prog ⟨none, 5, 1, 1⟩ h8 4096 4096 fun s10 h11 =>
  (hcell h11 ((a4.add 0).add 0) = some (.slice x9.a x9.len x9.cap)) ∧
  Nw h11 #[(.slice s10.a s10.len s10.cap)] 44 fun a12 h13 =>
  (hcell h13 ((a4.add 0).add 0) = some (.slice x9.a x9.len x9.cap)) ∧
  App Try.prog ⟨none, 44, 1, 24⟩ h13 x9 ⟨(some a12), 1, 1⟩ fun s14 h15 =>
  St h15 ((a4.add 0).add 0) (.slice s14.a s14.len s14.cap) fun h16 =>
  LetI (IntKind.wrap .i64 (z7.1 + 1)) fun n17 =>
  self6 (n17, ()) h16)
  (Q (some a4) h8)) (0, ()) h5)
noncomputable def F88 := Seal @B88
theorem F88_eq : @F88 = @B88 := Seal_eq _
noncomputable def E88 : Ent Try.prog := mkEnt tabOk 88 Try.f88 (Try.f88.body.getD .skip) Try.func88 (by kernel_rfl)
  []
  ⟨[(3, [])], [(5, [(4, .one (.i .i64))])], [(7, (.q 0 (.q 1 (.q 2 (.q 3 (.q 4 (.m1 5 (.m1 6 (.m1 7 (.q 8 (.q 9 (.m1 10 .done))))))))))))]⟩
  [.one (.i .i64)] (by kernel_rfl)
  (fun x K h => F88 x.1 (fun r1 h' => K (.pointer r1) h') h)
  (fun x K h => B88 x.1 (fun r1 h' => K (.pointer r1) h') h)
  (by rw [F88_eq]) (fun x K h => by kernel_rfl)

/-- (*pantry/pantryref01.Memory).Is -/
def B170 (p0 : Option Addr) (p1 : Int) (Q : Bool → H → Prop) (h : H) : Prop :=
  Br (decide (p1 ≥ 0))
  (NilP p0 fun a1 =>
  Ld .s h ((a1.add 0).add 0) fun x2 =>
  Q (decide (p1 < ((x2.len : Nat) : Int))) h)
  (Q false h)
noncomputable def F170 := Seal @B170
theorem F170_eq : @F170 = @B170 := Seal_eq _
noncomputable def E170 : Ent Try.prog := mkEnt tabOk 170 Try.f170 (Try.f170.body.getD .skip) Try.func170 (by kernel_rfl)
  []
  ⟨[], [], []⟩
  [.one .p, .one (.i .i64)] (by kernel_rfl)
  (fun x K h => F170 x.1 x.2.1 (fun r1 h' => K (.bool r1) h') h)
  (fun x K h => B170 x.1 x.2.1 (fun r1 h' => K (.bool r1) h') h)
  (by rw [F170_eq]) (fun x K h => by kernel_rfl)

/-- (*pantry/pantryref01.Memory).Byte -/
def B90 (p0 : Option Addr) (p1 : Int) (p2 : Int) (Q : Int → Bool → H → Prop) (h : H) : Prop :=
  JoinM (σ := Unit) (fun J1 =>
  F170 p0 p1 (fun r4 h5 =>
  Br (!r4)
  (Q 0 false h5)
  (Br (decide (p2 < 0))
  (Q 0 false h5)
  (Br (decide (p2 ≥ 4096))
  (Q 0 false h5)
  (J1 (()) h5)))) h)
  (fun y2 h3 =>
  NilP p0 fun a6 =>
  Ld .s h3 ((a6.add 0).add 0) fun x7 =>
  IdxS x7.a x7.len p1 fun a8 =>
  Ld .s h3 ((a8.add (Int.toNat p1 * 1)).add 0) fun x9 =>
  IdxS x9.a x9.len p2 fun a10 =>
  Ld (.i .u8) h3 ((a10.add (Int.toNat p2 * 1)).add 0) fun x11 =>
  LetI x11 fun n12 =>
  Q n12 true h3)
noncomputable def F90 := Seal @B90
theorem F90_eq : @F90 = @B90 := Seal_eq _
noncomputable def E90 : Ent Try.prog := mkEnt tabOk 90 Try.f90 (Try.f90.body.getD .skip) Try.func90 (by kernel_rfl)
  [E170]
  ⟨[(3, [])], [], []⟩
  [.one .p, .one (.i .i64), .one (.i .i64)] (by kernel_rfl)
  (fun x K h => F90 x.1 x.2.1 x.2.2.1 (fun r1 r2 h' => K (.tuple #[(.int .u8 r1), (.bool r2)]) h') h)
  (fun x K h => B90 x.1 x.2.1 x.2.2.1 (fun r1 r2 h' => K (.tuple #[(.int .u8 r1), (.bool r2)]) h') h)
  (by rw [F90_eq]) (fun x K h => by kernel_rfl)

/-- (*pantry/pantryref01.Memory).SetByte -/
def B165 (p0 : Option Addr) (p1 : Int) (p2 : Int) (p3 : Int) (Q : Bool → H → Prop) (h : H) : Prop :=
  F90 p0 p1 p2 (fun r1 r2 h3 =>
  LetI r1 fun n4 =>
  Br r2
  (NilP p0 fun a5 =>
  Ld .s h3 ((a5.add 0).add 0) fun x6 =>
  IdxS x6.a x6.len p1 fun a7 =>
  Ld .s h3 ((a7.add (Int.toNat p1 * 1)).add 0) fun x8 =>
  IdxS x8.a x8.len p2 fun a9 =>
  St h3 ((a9.add (Int.toNat p2 * 1)).add 0) (.int .u8 p3) fun h10 =>
  Q r2 h10)
  (Q r2 h3)) h
noncomputable def F165 := Seal @B165
theorem F165_eq : @F165 = @B165 := Seal_eq _
noncomputable def E165 : Ent Try.prog := mkEnt tabOk 165 Try.f165 (Try.f165.body.getD .skip) Try.func165 (by kernel_rfl)
  [E90]
  ⟨[], [], []⟩
  [.one .p, .one (.i .i64), .one (.i .i64), .one (.i .u8)] (by kernel_rfl)
  (fun x K h => F165 x.1 x.2.1 x.2.2.1 x.2.2.2.1 (fun r1 h' => K (.bool r1) h') h)
  (fun x K h => B165 x.1 x.2.1 x.2.2.1 x.2.2.2.1 (fun r1 h' => K (.bool r1) h') h)
  (by rw [F165_eq]) (fun x K h => by kernel_rfl)

/-- (*pantry/pantryref01.Memory).Word -/
def B91 (p0 : Option Addr) (p1 : Int) (p2 : Int) (Q : Int → Bool → H → Prop) (h : H) : Prop :=
  JoinM (σ := Unit) (fun J1 =>
  F170 p0 p1 (fun r4 h5 =>
  Br (!r4)
  (Q 0 false h5)
  (Br (decide (p2 < 0))
  (Q 0 false h5)
  (Br (decide (p2 ≥ 512))
  (Q 0 false h5)
  (J1 (()) h5)))) h)
  (fun y2 h3 =>
  LoopM (σ := Int × Int × Unit) (fun self6 z7 h8 =>
  Br (decide (z7.2.1 ≥ 0))
  (NilP p0 fun a9 =>
  Ld .s h8 ((a9.add 0).add 0) fun x10 =>
  IdxS x10.a x10.len p1 fun a11 =>
  Ld .s h8 ((a11.add (Int.toNat p1 * 1)).add 0) fun x12 =>
  IdxS x12.a x12.len (IntKind.wrap .i64 ((IntKind.wrap .i64 (8 * p2)) + z7.2.1)) fun a13 =>
  Ld (.i .u8) h8 ((a13.add (Int.toNat (IntKind.wrap .i64 ((IntKind.wrap .i64 (8 * p2)) + z7.2.1)) * 1)).add 0) fun x14 =>
  LetI (IntKind.wrap .u64 ((IntKind.wrap .u64 (z7.1 * 256)) + (IntKind.wrap .u64 x14))) fun n15 =>
  LetI (IntKind.wrap .i64 (z7.2.1 - 1)) fun n16 =>
  self6 (n15, n16, ()) h8)
  (LetI z7.1 fun n17 =>
  Q n17 true h8)) (0, 7, ()) h3)
noncomputable def F91 := Seal @B91
theorem F91_eq : @F91 = @B91 := Seal_eq _
noncomputable def E91 : Ent Try.prog := mkEnt tabOk 91 Try.f91 (Try.f91.body.getD .skip) Try.func91 (by kernel_rfl)
  [E170]
  ⟨[(3, [])], [(5, [(8, .one (.i .u64)), (9, .one (.i .i64))])], []⟩
  [.one .p, .one (.i .i64), .one (.i .i64)] (by kernel_rfl)
  (fun x K h => F91 x.1 x.2.1 x.2.2.1 (fun r1 r2 h' => K (.tuple #[(.int .u64 r1), (.bool r2)]) h') h)
  (fun x K h => B91 x.1 x.2.1 x.2.2.1 (fun r1 r2 h' => K (.tuple #[(.int .u64 r1), (.bool r2)]) h') h)
  (by rw [F91_eq]) (fun x K h => by kernel_rfl)

/-- (*pantry/pantryref01.Memory).SetWord -/
def B166 (p0 : Option Addr) (p1 : Int) (p2 : Int) (p3 : Int) (Q : Bool → H → Prop) (h : H) : Prop :=
  F91 p0 p1 p2 (fun r1 r2 h3 =>
  LetI r1 fun n4 =>
  LoopM (σ := Int × Unit) (fun self5 z6 h7 =>
  JoinM (σ := Unit) (fun J8 =>
  Br r2
  (Br (decide (z6.1 < 8))
  (J8 (()) h7)
  (Q r2 h7))
  (Q r2 h7))
  (fun y9 h10 =>
  NilP p0 fun a11 =>
  Ld .s h10 ((a11.add 0).add 0) fun x12 =>
  IdxS x12.a x12.len p1 fun a13 =>
  Ld .s h10 ((a13.add (Int.toNat p1 * 1)).add 0) fun x14 =>
  Asr ((0 : Int) ≤ (IntKind.wrap .u64 (IntKind.wrap .i64 (8 * z6.1))))
  (IdxS x14.a x14.len (IntKind.wrap .i64 ((IntKind.wrap .i64 (8 * p2)) + z6.1)) fun a15 =>
  St h10 ((a15.add (Int.toNat (IntKind.wrap .i64 ((IntKind.wrap .i64 (8 * p2)) + z6.1)) * 1)).add 0) (.int .u8 (IntKind.wrap .u8 (shR .u64 p3 (IntKind.wrap .u64 (IntKind.wrap .i64 (8 * z6.1)))))) fun h16 =>
  LetI (IntKind.wrap .i64 (z6.1 + 1)) fun n17 =>
  self5 (n17, ()) h16))) (0, ()) h3) h
noncomputable def F166 := Seal @B166
theorem F166_eq : @F166 = @B166 := Seal_eq _
noncomputable def E166 : Ent Try.prog := mkEnt tabOk 166 Try.f166 (Try.f166.body.getD .skip) Try.func166 (by kernel_rfl)
  [E91]
  ⟨[(5, [])], [(3, [(11, .one (.i .i64))])], []⟩
  [.one .p, .one (.i .i64), .one (.i .i64), .one (.i .u64)] (by kernel_rfl)
  (fun x K h => F166 x.1 x.2.1 x.2.2.1 x.2.2.2.1 (fun r1 h' => K (.bool r1) h') h)
  (fun x K h => B166 x.1 x.2.1 x.2.2.1 x.2.2.2.1 (fun r1 h' => K (.bool r1) h') h)
  (by rw [F166_eq]) (fun x K h => by kernel_rfl)

/-- (*pantry/pantryref01.Memory).Fill -/
def B169 (p0 : Option Addr) (p1 : Int) (p2 : Sl) (Q : Bool → H → Prop) (h : H) : Prop :=
  F170 p0 p1 (fun r1 h2 =>
  Br (!r1)
  (Q false h2)
  (LoopM (σ := Int × Unit) (fun self3 z4 h5 =>
  Br (decide (z4.1 < 4096))
  (NilP p0 fun a6 =>
  Ld .s h5 ((a6.add 0).add 0) fun x7 =>
  IdxS x7.a x7.len p1 fun a8 =>
  Ld .s h5 ((a8.add (Int.toNat p1 * 1)).add 0) fun x9 =>
  IdxS x9.a x9.len z4.1 fun a10 =>
  St h5 ((a10.add (Int.toNat z4.1 * 1)).add 0) (.int .u8 0) fun h11 =>
  Br (decide (z4.1 < ((p2.len : Nat) : Int)))
  (NilP p0 fun a12 =>
  Ld .s h11 ((a12.add 0).add 0) fun x13 =>
  IdxS x13.a x13.len p1 fun a14 =>
  Ld .s h11 ((a14.add (Int.toNat p1 * 1)).add 0) fun x15 =>
  IdxS p2.a p2.len z4.1 fun a16 =>
  Ld (.i .u8) h11 ((a16.add (Int.toNat z4.1 * 1)).add 0) fun x17 =>
  IdxS x15.a x15.len z4.1 fun a18 =>
  St h11 ((a18.add (Int.toNat z4.1 * 1)).add 0) (.int .u8 x17) fun h19 =>
  LetI (IntKind.wrap .i64 (z4.1 + 1)) fun n20 =>
  self3 (n20, ()) h19)
  (LetI (IntKind.wrap .i64 (z4.1 + 1)) fun n21 =>
  self3 (n21, ()) h11))
  (Q true h5)) (0, ()) h2)) h
noncomputable def F169 := Seal @B169
theorem F169_eq : @F169 = @B169 := Seal_eq _
noncomputable def E169 : Ent Try.prog := mkEnt tabOk 169 Try.f169 (Try.f169.body.getD .skip) Try.func169 (by kernel_rfl)
  [E170]
  ⟨[], [(4, [(7, .one (.i .i64))])], [(8, (.q 0 (.q 1 (.q 2 (.q 3 (.q 4 (.q 5 (.q 6 (.q 7 (.q 8 (.q 9 (.q 10 (.q 11 (.q 12 (.m1 13 .done)))))))))))))))]⟩
  [.one .p, .one (.i .i64), .one .s] (by kernel_rfl)
  (fun x K h => F169 x.1 x.2.1 x.2.2.1 (fun r1 h' => K (.bool r1) h') h)
  (fun x K h => B169 x.1 x.2.1 x.2.2.1 (fun r1 h' => K (.bool r1) h') h)
  (by rw [F169_eq]) (fun x K h => by kernel_rfl)

/-- (*pantry/pantryref01.Memory).Zero -/
def B167 (p0 : Option Addr) (p1 : Int) (Q : Bool → H → Prop) (h : H) : Prop :=
  F169 p0 p1 ⟨none, 0, 0⟩ (fun r1 h2 =>
  Q r1 h2) h
noncomputable def F167 := Seal @B167
theorem F167_eq : @F167 = @B167 := Seal_eq _
noncomputable def E167 : Ent Try.prog := mkEnt tabOk 167 Try.f167 (Try.f167.body.getD .skip) Try.func167 (by kernel_rfl)
  [E169]
  ⟨[], [], []⟩
  [.one .p, .one (.i .i64)] (by kernel_rfl)
  (fun x K h => F167 x.1 x.2.1 (fun r1 h' => K (.bool r1) h') h)
  (fun x K h => B167 x.1 x.2.1 (fun r1 h' => K (.bool r1) h') h)
  (by rw [F167_eq]) (fun x K h => by kernel_rfl)

/-- (*pantry/pantryref01.Memory).Page -/
def B94 (p0 : Option Addr) (p1 : Int) (Q : Sl → H → Prop) (h : H) : Prop :=
  F170 p0 p1 (fun r1 h2 =>
  Br (!r1)
  (Q ⟨none, 0, 0⟩ h2)
  (Nw h2 #[] 5 fun a3 h4 =>
  NilP p0 fun a5 =>
  Ld .s h4 ((a5.add 0).add 0) fun x6 =>
  IdxS x6.a x6.len p1 fun a7 =>
  Ld .s h4 ((a7.add (Int.toNat p1 * 1)).add 0) fun x8 =>
  App Try.prog ⟨none, 5, 1, 1⟩ h4 ⟨(some a3), 0, 0⟩ x8 fun s9 h10 =>
  Q s9 h10)) h
noncomputable def F94 := Seal @B94
theorem F94_eq : @F94 = @B94 := Seal_eq _
noncomputable def E94 : Ent Try.prog := mkEnt tabOk 94 Try.f94 (Try.f94.body.getD .skip) Try.func94 (by kernel_rfl)
  [E170]
  ⟨[], [], []⟩
  [.one .p, .one (.i .i64)] (by kernel_rfl)
  (fun x K h => F94 x.1 x.2.1 (fun r1 h' => K (.slice r1.a r1.len r1.cap) h') h)
  (fun x K h => B94 x.1 x.2.1 (fun r1 h' => K (.slice r1.a r1.len r1.cap) h') h)
  (by rw [F94_eq]) (fun x K h => by kernel_rfl)

/-- (*pantry/pantryref01.Memory).Copy -/
def B168 (p0 : Option Addr) (p1 : Int) (p2 : Int) (Q : Bool → H → Prop) (h : H) : Prop :=
  F170 p0 p1 (fun r1 h2 =>
  Br r1
  (F170 p0 p2 (fun r3 h4 =>
  Br r3
  (F94 p0 p2 (fun r5 h6 =>
  F169 p0 p1 r5 (fun r7 h8 =>
  Q r7 h8) h6) h4)
  (Q false h4)) h2)
  (Q false h2)) h
noncomputable def F168 := Seal @B168
theorem F168_eq : @F168 = @B168 := Seal_eq _
noncomputable def E168 : Ent Try.prog := mkEnt tabOk 168 Try.f168 (Try.f168.body.getD .skip) Try.func168 (by kernel_rfl)
  [E170, E94, E169]
  ⟨[], [], []⟩
  [.one .p, .one (.i .i64), .one (.i .i64)] (by kernel_rfl)
  (fun x K h => F168 x.1 x.2.1 x.2.2.1 (fun r1 h' => K (.bool r1) h') h)
  (fun x K h => B168 x.1 x.2.1 x.2.2.1 (fun r1 h' => K (.bool r1) h') h)
  (by rw [F168_eq]) (fun x K h => by kernel_rfl)

/-- (*pantry/pantryref01.Memory).Same -/
def B92 (p0 : Option Addr) (p1 : Int) (p2 : Int) (Q : Bool → H → Prop) (h : H) : Prop :=
  QC [.one .b] h (fun K' h' => F170 p0 p1 (fun r2 h'' => K' (.bool r2) h'') h') fun x1 =>
  Br x1.1
  (QC [.one .b] h (fun K' h' => F170 p0 p2 (fun r4 h'' => K' (.bool r4) h'') h') fun x3 =>
  Br x3.1
  (NilP p0 fun a5 =>
  Ld .s h ((a5.add 0).add 0) fun x6 =>
  IdxS x6.a x6.len p1 fun a7 =>
  Ld .s h ((a7.add (Int.toNat p1 * 1)).add 0) fun x8 =>
  ∃ x9 : List Int, (x9.length = x8.len ∧ Reads h x8.a (x9.map (Value.int .u8))) ∧
  NilP p0 fun a10 =>
  Ld .s h ((a10.add 0).add 0) fun x11 =>
  IdxS x11.a x11.len p2 fun a12 =>
  Ld .s h ((a12.add (Int.toNat p2 * 1)).add 0) fun x13 =>
  ∃ x14 : List Int, (x14.length = x13.len ∧ Reads h x13.a (x14.map (Value.int .u8))) ∧
  Q ((strOfNums x9).toList == (strOfNums x14).toList) h)
  (Q false h))
  (Q false h)
noncomputable def F92 := Seal @B92
theorem F92_eq : @F92 = @B92 := Seal_eq _
noncomputable def E92 : Ent Try.prog := mkEnt tabOk 92 Try.f92 (Try.f92.body.getD .skip) Try.func92 (by kernel_rfl)
  [E170]
  ⟨[], [], [(1, (.q 0 (.q 1 (.qc 2 [.one .b] (.q 3 (.q 4 (.q 5 (.qc 6 [.one .b] (.q 7 (.q 8 (.q 9 (.q 10 (.q 11 (.q 12 (.q 13 (.q 14 (.q 15 (.q 16 (.q 17 (.q 18 (.q 19 (.q 20 (.q 21 (.q 22 (.q 23 (.q 24 (.q 25 (.q 26 (.q 27 .done)))))))))))))))))))))))))))))]⟩
  [.one .p, .one (.i .i64), .one (.i .i64)] (by kernel_rfl)
  (fun x K h => F92 x.1 x.2.1 x.2.2.1 (fun r1 h' => K (.bool r1) h') h)
  (fun x K h => B92 x.1 x.2.1 x.2.2.1 (fun r1 h' => K (.bool r1) h') h)
  (by rw [F92_eq]) (fun x K h => by kernel_rfl)

end Go.Proofs.Ytfijchofplkcoaa
