/-
  PRINTED BY wip/tools/emit.py: what each Go function comes to, as a predicate over the heap (the kernel holds each against the translated program).
-/
import Derived.Test.YtfijchofplkcoaaGb
set_option linter.unusedVariables false
set_option maxRecDepth 100000
namespace Go.Proofs.Ytfijchofplkcoaa

/-- pantry/frames.New -/
def B75 (p0 : Int) (p1 : Int) (Q : Option Addr → H → Prop) (h : H) : Prop :=
  JoinM (σ := Unit) (fun J1 =>
  Br (decide (p0 < 1))
  (Q none h)
  (Br (decide (p0 > 256))
  (Q none h)
  (Br (decide (p1 < 0))
  (Q none h)
  (Br (decide (p1 > p0))
  (Q none h)
  (J1 (()) h)))))
  (fun y2 h3 =>
  Mk Try.prog ⟨none, 72, 5, 40⟩ h3 p0 p0 fun s4 h5 =>
  Nw h5 #[(.slice s4.a s4.len s4.cap), (.int .i64 p1)] 118 fun a6 h7 =>
  Q (some a6) h7)
noncomputable def F75 := Seal @B75
theorem F75_eq : @F75 = @B75 := Seal_eq _
noncomputable def E75 : Ent Try.prog := mkEnt tabOk 75 Try.f75 (Try.f75.body.getD .skip) Try.func75 (by kernel_rfl)
  []
  ⟨[(3, [])], [], []⟩
  [.one (.i .i64), .one (.i .i64)] (by kernel_rfl)
  (fun x K h => F75 x.1 x.2.1 (fun r1 h' => K (.pointer r1) h') h)
  (fun x K h => B75 x.1 x.2.1 (fun r1 h' => K (.pointer r1) h') h)
  (by rw [F75_eq]) (fun x K h => by kernel_rfl)

/-- (*pantry/frames.Pool).made -/
def B159 (p0 : Option Addr) (Q : Bool → H → Prop) (h : H) : Prop :=
  Br (!(Option.isNone p0))
  (NilP p0 fun a1 =>
  Ld .s h ((a1.add 0).add 0) fun x2 =>
  Q (decide (((x2.len : Nat) : Int) > 0)) h)
  (Q false h)
noncomputable def F159 := Seal @B159
theorem F159_eq : @F159 = @B159 := Seal_eq _
noncomputable def E159 : Ent Try.prog := mkEnt tabOk 159 Try.f159 (Try.f159.body.getD .skip) Try.func159 (by kernel_rfl)
  []
  ⟨[], [], []⟩
  [.one .p] (by kernel_rfl)
  (fun x K h => F159 x.1 (fun r1 h' => K (.bool r1) h') h)
  (fun x K h => B159 x.1 (fun r1 h' => K (.bool r1) h') h)
  (by rw [F159_eq]) (fun x K h => by kernel_rfl)

/-- (*pantry/frames.Pool).Count -/
def B100 (p0 : Option Addr) (p1 : Int) (Q : Int → H → Prop) (h : H) : Prop :=
  F159 p0 (fun r1 h2 =>
  Br (!r1)
  (Q 0 h2)
  (NilP p0 fun a3 =>
  Ld .s h2 ((a3.add 0).add 0) fun x4 =>
  LoopM (σ := Int × Int × Unit) (fun self5 z6 h7 =>
  Br (decide (z6.2.1 < ((x4.len : Nat) : Int)))
  (IdxS x4.a x4.len z6.2.1 fun a8 =>
  Ld (.i .i64) h7 ((a8.add (Int.toNat z6.2.1 * 5)).add 0) fun x9 =>
  Ld (.i .i64) h7 ((a8.add (Int.toNat z6.2.1 * 5)).add 1) fun x10 =>
  Ld (.i .i64) h7 ((a8.add (Int.toNat z6.2.1 * 5)).add 2) fun x11 =>
  Ld (.i .i64) h7 ((a8.add (Int.toNat z6.2.1 * 5)).add 3) fun x12 =>
  Ld (.i .i64) h7 ((a8.add (Int.toNat z6.2.1 * 5)).add 4) fun x13 =>
  Nw h7 (zeroC Try.prog 72) 72 fun a14 h15 =>
  St h15 (a14.add 0) (.int .i64 x9) fun h16 =>
  St h16 (a14.add 1) (.int .i64 x10) fun h17 =>
  St h17 (a14.add 2) (.int .i64 x11) fun h18 =>
  St h18 (a14.add 3) (.int .i64 x12) fun h19 =>
  St h19 (a14.add 4) (.int .i64 x13) fun h20 =>
  Ld (.i .i64) h20 ((a14.add 0).add 0) fun x21 =>
  Br (x21 == p1)
  (LetI (IntKind.wrap .i64 (z6.1 + 1)) fun n22 =>
  self5 (n22, (IntKind.wrap .i64 (z6.2.1 + 1)), ()) h20)
  (self5 (z6.1, (IntKind.wrap .i64 (z6.2.1 + 1)), ()) h20))
  (LetI z6.1 fun n23 =>
  Q n23 h7)) (0, 0, ()) h2)) h
noncomputable def F100 := Seal @B100
theorem F100_eq : @F100 = @B100 := Seal_eq _
noncomputable def E100 : Ent Try.prog := mkEnt tabOk 100 Try.f100 (Try.f100.body.getD .skip) Try.func100 (by kernel_rfl)
  [E159]
  ⟨[], [(5, [(5, .one (.i .i64)), (16, .one (.i .i64))])], []⟩
  [.one .p, .one (.i .i64)] (by kernel_rfl)
  (fun x K h => F100 x.1 x.2.1 (fun r1 h' => K (.int .i64 r1) h') h)
  (fun x K h => B100 x.1 x.2.1 (fun r1 h' => K (.int .i64 r1) h') h)
  (by rw [F100_eq]) (fun x K h => by kernel_rfl)

/-- (*pantry/frames.Pool).Free -/
def B98 (p0 : Option Addr) (Q : Int → H → Prop) (h : H) : Prop :=
  F100 p0 0 (fun r1 h2 =>
  LetI r1 fun n3 =>
  Q n3 h2) h
noncomputable def F98 := Seal @B98
theorem F98_eq : @F98 = @B98 := Seal_eq _
noncomputable def E98 : Ent Try.prog := mkEnt tabOk 98 Try.f98 (Try.f98.body.getD .skip) Try.func98 (by kernel_rfl)
  [E100]
  ⟨[], [], []⟩
  [.one .p] (by kernel_rfl)
  (fun x K h => F98 x.1 (fun r1 h' => K (.int .i64 r1) h') h)
  (fun x K h => B98 x.1 (fun r1 h' => K (.int .i64 r1) h') h)
  (by rw [F98_eq]) (fun x K h => by kernel_rfl)

/-- (*pantry/frames.Pool).Take$1 -/
def B161 (p0 : Int) (p1 : Int) (p2 : Int) (p3 : Int) (p4 : Int) (Q : Bool → H → Prop) (h : H) : Prop :=
  Nw h #[(.int .i64 p0), (.int .i64 p1), (.int .i64 p2), (.int .i64 p3), (.int .i64 p4)] 72 fun a1 h2 =>
  Ld (.i .i64) h2 (a1.add 0) fun x3 =>
  Ld (.i .i64) h2 (a1.add 1) fun x4 =>
  Ld (.i .i64) h2 (a1.add 2) fun x5 =>
  Ld (.i .i64) h2 (a1.add 3) fun x6 =>
  Ld (.i .i64) h2 (a1.add 4) fun x7 =>
  Q ((x3 == 0) && ((x4 == 0) && ((x5 == 0) && ((x6 == 0) && ((x7 == 0) && true))))) h2
noncomputable def F161 := Seal @B161
theorem F161_eq : @F161 = @B161 := Seal_eq _
noncomputable def E161 : Ent Try.prog := mkEnt tabOk 161 Try.f161 (Try.f161.body.getD .skip) Try.func161 (by kernel_rfl)
  []
  ⟨[], [], []⟩
  [.agg [(.i .i64), (.i .i64), (.i .i64), (.i .i64), (.i .i64)]] (by kernel_rfl)
  (fun x K h => F161 x.1.1 x.1.2.1 x.1.2.2.1 x.1.2.2.2.1 x.1.2.2.2.2.1 (fun r1 h' => K (.bool r1) h') h)
  (fun x K h => B161 x.1.1 x.1.2.1 x.1.2.2.1 x.1.2.2.2.1 x.1.2.2.2.2.1 (fun r1 h' => K (.bool r1) h') h)
  (by rw [F161_eq]) (fun x K h => by kernel_rfl)

/-- slices.IndexFunc[[]pantry/frames.Frame,pantry/frames.Frame] -/
def B160 (p0 : Sl) (Q : Int → H → Prop) (h : H) : Prop :=
  LoopM (σ := Int × Unit) (fun self1 z2 h3 =>
  Br (decide (z2.1 < ((p0.len : Nat) : Int)))
  (LetI z2.1 fun n4 =>
  IdxS p0.a p0.len n4 fun a5 =>
  Ld (.i .i64) h3 ((a5.add (Int.toNat n4 * 5)).add 0) fun x6 =>
  Ld (.i .i64) h3 ((a5.add (Int.toNat n4 * 5)).add 1) fun x7 =>
  Ld (.i .i64) h3 ((a5.add (Int.toNat n4 * 5)).add 2) fun x8 =>
  Ld (.i .i64) h3 ((a5.add (Int.toNat n4 * 5)).add 3) fun x9 =>
  Ld (.i .i64) h3 ((a5.add (Int.toNat n4 * 5)).add 4) fun x10 =>
  F161 x6 x7 x8 x9 x10 (fun r11 h12 =>
  Br r11
  (LetI n4 fun n13 =>
  Q n13 h12)
  (self1 ((IntKind.wrap .i64 (z2.1 + 1)), ()) h12)) h3)
  (Q (-1) h3)) (0, ()) h
noncomputable def F160 := Seal @B160
theorem F160_eq : @F160 = @B160 := Seal_eq _
noncomputable def E160 : Ent Try.prog := mkEnt tabOk 160 Try.f160 (Try.f160.body.getD .skip) Try.func160 (by kernel_rfl)
  [E161]
  ⟨[], [(2, [(8, .one (.i .i64))])], []⟩
  [.one .s, .fn 161 []] (by kernel_rfl)
  (fun x K h => F160 x.1 (fun r1 h' => K (.int .i64 r1) h') h)
  (fun x K h => B160 x.1 (fun r1 h' => K (.int .i64 r1) h') h)
  (by rw [F160_eq]) (fun x K h => by kernel_rfl)

/-- (*pantry/frames.Pool).Take -/
def B76 (p0 : Option Addr) (p1 : Int) (p2 : Int) (p3 : Int) (Q : Int → Int → H → Prop) (h : H) : Prop :=
  F159 p0 (fun r1 h2 =>
  Br (!r1)
  (Q 0 1 h2)
  (JoinM (σ := Unit) (fun J3 =>
  Br (decide (p1 < 1))
  (Q 0 2 h2)
  (Br (decide (p1 > 4))
  (Q 0 2 h2)
  (J3 (()) h2)))
  (fun y4 h5 =>
  NilP p0 fun a6 =>
  Ld (.i .i64) h5 ((a6.add 1).add 0) fun x7 =>
  LetI x7 fun n8 =>
  JoinM (σ := Int × Unit) (fun J9 =>
  Br (p1 == 1)
  (J9 (0, ()) h5)
  (J9 (n8, ()) h5))
  (fun y10 h11 =>
  F98 p0 (fun r12 h13 =>
  Br (decide (r12 ≤ y10.1))
  (Q 0 5 h13)
  (NilP p0 fun a14 =>
  Ld .s h13 ((a14.add 0).add 0) fun x15 =>
  F160 x15 (fun r16 h17 =>
  LetI r16 fun n18 =>
  Br (decide (n18 < 0))
  (Q 0 5 h17)
  (NilP p0 fun a19 =>
  Ld .s h17 ((a19.add 0).add 0) fun x20 =>
  IdxS x20.a x20.len n18 fun a21 =>
  St h17 ((a21.add (Int.toNat n18 * 5)).add 0) (.int .i64 p1) fun h22 =>
  St h22 ((a21.add (Int.toNat n18 * 5)).add 1) (.int .i64 p2) fun h23 =>
  St h23 ((a21.add (Int.toNat n18 * 5)).add 2) (.int .i64 p3) fun h24 =>
  St h24 ((a21.add (Int.toNat n18 * 5)).add 3) (.int .i64 0) fun h25 =>
  St h25 ((a21.add (Int.toNat n18 * 5)).add 4) (.int .i64 0) fun h26 =>
  LetI n18 fun n27 =>
  Q n27 0 h26)) h13)) h11)))) h
noncomputable def F76 := Seal @B76
theorem F76_eq : @F76 = @B76 := Seal_eq _
noncomputable def E76 : Ent Try.prog := mkEnt tabOk 76 Try.f76 (Try.f76.body.getD .skip) Try.func76 (by kernel_rfl)
  [E159, E98, E160]
  ⟨[(5, []), (8, [(10, .one (.i .i64))])], [], []⟩
  [.one .p, .one (.i .i64), .one (.i .i64), .one (.i .i64)] (by kernel_rfl)
  (fun x K h => F76 x.1 x.2.1 x.2.2.1 x.2.2.2.1 (fun r1 r2 h' => K (.tuple #[(.int .i64 r1), (.int .i64 r2)]) h') h)
  (fun x K h => B76 x.1 x.2.1 x.2.2.1 x.2.2.2.1 (fun r1 r2 h' => K (.tuple #[(.int .i64 r1), (.int .i64 r2)]) h') h)
  (by rw [F76_eq]) (fun x K h => by kernel_rfl)

/-- (*pantry/frames.Pool).Give$1 -/
def B163 (p0 : Option Addr) (Q : Int → H → Prop) (h : H) : Prop :=
  JoinM (σ := Unit) (fun J1 =>
  NilP p0 fun a4 =>
  Ld (.i .i64) h ((a4.add 3).add 0) fun x5 =>
  Br (x5 != 0)
  (Q 8 h)
  (NilP p0 fun a6 =>
  Ld (.i .i64) h ((a6.add 4).add 0) fun x7 =>
  Br (x7 != 0)
  (Q 8 h)
  (J1 (()) h)))
  (fun y2 h3 =>
  NilP p0 fun a8 =>
  St h3 (a8.add 0) (.int .i64 0) fun h9 =>
  St h9 (a8.add 1) (.int .i64 0) fun h10 =>
  St h10 (a8.add 2) (.int .i64 0) fun h11 =>
  St h11 (a8.add 3) (.int .i64 0) fun h12 =>
  St h12 (a8.add 4) (.int .i64 0) fun h13 =>
  Q 0 h13)
noncomputable def F163 := Seal @B163
theorem F163_eq : @F163 = @B163 := Seal_eq _
noncomputable def E163 : Ent Try.prog := mkEnt tabOk 163 Try.f163 (Try.f163.body.getD .skip) Try.func163 (by kernel_rfl)
  []
  ⟨[(3, [])], [], []⟩
  [.one .p] (by kernel_rfl)
  (fun x K h => F163 x.1 (fun r1 h' => K (.int .i64 r1) h') h)
  (fun x K h => B163 x.1 (fun r1 h' => K (.int .i64 r1) h') h)
  (by rw [F163_eq]) (fun x K h => by kernel_rfl)

/-- (*pantry/frames.Pool).with -/
def B162Give (p0 : Option Addr) (p1 : Int) (Q : Int → H → Prop) (h : H) : Prop :=
  JoinM (σ := Unit) (fun J1 =>
  F159 p0 (fun r4 h5 =>
  Br (!r4)
  (Q 1 h5)
  (Br (decide (p1 < 0))
  (Q 7 h5)
  (NilP p0 fun a6 =>
  Ld .s h5 ((a6.add 0).add 0) fun x7 =>
  Br (decide (p1 ≥ ((x7.len : Nat) : Int)))
  (Q 7 h5)
  (NilP p0 fun a8 =>
  Ld .s h5 ((a8.add 0).add 0) fun x9 =>
  IdxS x9.a x9.len p1 fun a10 =>
  Ld (.i .i64) h5 (((a10.add (Int.toNat p1 * 5)).add 0).add 0) fun x11 =>
  Br (x11 == 0)
  (Q 2 h5)
  (J1 (()) h5))))) h)
  (fun y2 h3 =>
  NilP p0 fun a12 =>
  Ld .s h3 ((a12.add 0).add 0) fun x13 =>
  IdxS x13.a x13.len p1 fun a14 =>
  F163 (some (a14.add (Int.toNat p1 * 5))) (fun r15 h16 =>
  LetI r15 fun n17 =>
  Q n17 h16) h3)
noncomputable def F162Give := Seal @B162Give
theorem F162Give_eq : @F162Give = @B162Give := Seal_eq _
noncomputable def E162Give : Ent Try.prog := mkEnt tabOk 162 Try.f162 (Try.f162.body.getD .skip) Try.func162 (by kernel_rfl)
  [E159, E163]
  ⟨[(7, [])], [], []⟩
  [.one .p, .one (.i .i64), .fn 163 []] (by kernel_rfl)
  (fun x K h => F162Give x.1 x.2.1 (fun r1 h' => K (.int .i64 r1) h') h)
  (fun x K h => B162Give x.1 x.2.1 (fun r1 h' => K (.int .i64 r1) h') h)
  (by rw [F162Give_eq]) (fun x K h => by kernel_rfl)

/-- (*pantry/frames.Pool).Give -/
def B77 (p0 : Option Addr) (p1 : Int) (Q : Int → H → Prop) (h : H) : Prop :=
  F162Give p0 p1 (fun r1 h2 =>
  LetI r1 fun n3 =>
  Q n3 h2) h
noncomputable def F77 := Seal @B77
theorem F77_eq : @F77 = @B77 := Seal_eq _
noncomputable def E77 : Ent Try.prog := mkEnt tabOk 77 Try.f77 (Try.f77.body.getD .skip) Try.func77 (by kernel_rfl)
  [E162Give]
  ⟨[], [], []⟩
  [.one .p, .one (.i .i64)] (by kernel_rfl)
  (fun x K h => F77 x.1 x.2.1 (fun r1 h' => K (.int .i64 r1) h') h)
  (fun x K h => B77 x.1 x.2.1 (fun r1 h' => K (.int .i64 r1) h') h)
  (by rw [F77_eq]) (fun x K h => by kernel_rfl)

/-- (*pantry/frames.Pool).Get -/
def B78 (p0 : Option Addr) (p1 : Int) (Q : Int → Int → Int → Int → Int → Bool → H → Prop) (h : H) : Prop :=
  Nw h (zeroC Try.prog 72) 72 fun a1 h2 =>
  JoinM (σ := Unit) (fun J3 =>
  F159 p0 (fun r6 h7 =>
  Br (!r6)
  (St h7 (a1.add 0) (.int .i64 0) fun h8 =>
  St h8 (a1.add 1) (.int .i64 0) fun h9 =>
  St h9 (a1.add 2) (.int .i64 0) fun h10 =>
  St h10 (a1.add 3) (.int .i64 0) fun h11 =>
  St h11 (a1.add 4) (.int .i64 0) fun h12 =>
  Ld (.i .i64) h12 (a1.add 0) fun x13 =>
  Ld (.i .i64) h12 (a1.add 1) fun x14 =>
  Ld (.i .i64) h12 (a1.add 2) fun x15 =>
  Ld (.i .i64) h12 (a1.add 3) fun x16 =>
  Ld (.i .i64) h12 (a1.add 4) fun x17 =>
  Q x13 x14 x15 x16 x17 false h12)
  (Br (decide (p1 < 0))
  (St h7 (a1.add 0) (.int .i64 0) fun h18 =>
  St h18 (a1.add 1) (.int .i64 0) fun h19 =>
  St h19 (a1.add 2) (.int .i64 0) fun h20 =>
  St h20 (a1.add 3) (.int .i64 0) fun h21 =>
  St h21 (a1.add 4) (.int .i64 0) fun h22 =>
  Ld (.i .i64) h22 (a1.add 0) fun x23 =>
  Ld (.i .i64) h22 (a1.add 1) fun x24 =>
  Ld (.i .i64) h22 (a1.add 2) fun x25 =>
  Ld (.i .i64) h22 (a1.add 3) fun x26 =>
  Ld (.i .i64) h22 (a1.add 4) fun x27 =>
  Q x23 x24 x25 x26 x27 false h22)
  (NilP p0 fun a28 =>
  Ld .s h7 ((a28.add 0).add 0) fun x29 =>
  Br (decide (p1 ≥ ((x29.len : Nat) : Int)))
  (St h7 (a1.add 0) (.int .i64 0) fun h30 =>
  St h30 (a1.add 1) (.int .i64 0) fun h31 =>
  St h31 (a1.add 2) (.int .i64 0) fun h32 =>
  St h32 (a1.add 3) (.int .i64 0) fun h33 =>
  St h33 (a1.add 4) (.int .i64 0) fun h34 =>
  Ld (.i .i64) h34 (a1.add 0) fun x35 =>
  Ld (.i .i64) h34 (a1.add 1) fun x36 =>
  Ld (.i .i64) h34 (a1.add 2) fun x37 =>
  Ld (.i .i64) h34 (a1.add 3) fun x38 =>
  Ld (.i .i64) h34 (a1.add 4) fun x39 =>
  Q x35 x36 x37 x38 x39 false h34)
  (J3 (()) h7)))) h2)
  (fun y4 h5 =>
  NilP p0 fun a40 =>
  Ld .s h5 ((a40.add 0).add 0) fun x41 =>
  IdxS x41.a x41.len p1 fun a42 =>
  Ld (.i .i64) h5 ((a42.add (Int.toNat p1 * 5)).add 0) fun x43 =>
  Ld (.i .i64) h5 ((a42.add (Int.toNat p1 * 5)).add 1) fun x44 =>
  Ld (.i .i64) h5 ((a42.add (Int.toNat p1 * 5)).add 2) fun x45 =>
  Ld (.i .i64) h5 ((a42.add (Int.toNat p1 * 5)).add 3) fun x46 =>
  Ld (.i .i64) h5 ((a42.add (Int.toNat p1 * 5)).add 4) fun x47 =>
  St h5 (a1.add 0) (.int .i64 x43) fun h48 =>
  St h48 (a1.add 1) (.int .i64 x44) fun h49 =>
  St h49 (a1.add 2) (.int .i64 x45) fun h50 =>
  St h50 (a1.add 3) (.int .i64 x46) fun h51 =>
  St h51 (a1.add 4) (.int .i64 x47) fun h52 =>
  Ld (.i .i64) h52 (a1.add 0) fun x53 =>
  Ld (.i .i64) h52 (a1.add 1) fun x54 =>
  Ld (.i .i64) h52 (a1.add 2) fun x55 =>
  Ld (.i .i64) h52 (a1.add 3) fun x56 =>
  Ld (.i .i64) h52 (a1.add 4) fun x57 =>
  Q x53 x54 x55 x56 x57 true h52)
noncomputable def F78 := Seal @B78
theorem F78_eq : @F78 = @B78 := Seal_eq _
noncomputable def E78 : Ent Try.prog := mkEnt tabOk 78 Try.f78 (Try.f78.body.getD .skip) Try.func78 (by kernel_rfl)
  [E159]
  ⟨[(3, [])], [], []⟩
  [.one .p, .one (.i .i64)] (by kernel_rfl)
  (fun x K h => F78 x.1 x.2.1 (fun r1 r2 r3 r4 r5 r6 h' => K (.tuple #[(.agg #[(.int .i64 r1), (.int .i64 r2), (.int .i64 r3), (.int .i64 r4), (.int .i64 r5)]), (.bool r6)]) h') h)
  (fun x K h => B78 x.1 x.2.1 (fun r1 r2 r3 r4 r5 r6 h' => K (.tuple #[(.agg #[(.int .i64 r1), (.int .i64 r2), (.int .i64 r3), (.int .i64 r4), (.int .i64 r5)]), (.bool r6)]) h') h)
  (by rw [F78_eq]) (fun x K h => by kernel_rfl)

/-- pantry/pantryref06.New -/
def B95 (p0 : Int) (p1 : Int) (Q : Option Addr → H → Prop) (h : H) : Prop :=
  JoinM (σ := Unit) (fun J1 =>
  Br (decide (p0 < 1))
  (Q none h)
  (Br (decide (p0 > 256))
  (Q none h)
  (Br (decide (p1 < 0))
  (Q none h)
  (Br (decide (p1 > p0))
  (Q none h)
  (J1 (()) h)))))
  (fun y2 h3 =>
  Mk Try.prog ⟨none, 111, 5, 40⟩ h3 p0 p0 fun s4 h5 =>
  Nw h5 #[(.slice s4.a s4.len s4.cap), (.int .i64 p1)] 216 fun a6 h7 =>
  Q (some a6) h7)
noncomputable def F95 := Seal @B95
theorem F95_eq : @F95 = @B95 := Seal_eq _
noncomputable def E95 : Ent Try.prog := mkEnt tabOk 95 Try.f95 (Try.f95.body.getD .skip) Try.func95 (by kernel_rfl)
  []
  ⟨[(3, [])], [], []⟩
  [.one (.i .i64), .one (.i .i64)] (by kernel_rfl)
  (fun x K h => F95 x.1 x.2.1 (fun r1 h' => K (.pointer r1) h') h)
  (fun x K h => B95 x.1 x.2.1 (fun r1 h' => K (.pointer r1) h') h)
  (by rw [F95_eq]) (fun x K h => by kernel_rfl)

/-- (*pantry/frames.Pool).Own$1 -/
def B180 (p0 : Option Addr) (p1 : Addr) (p2 : Addr) (p3 : Addr) (Q : Int → H → Prop) (h : H) : Prop :=
  JoinM (σ := Unit) (fun J1 =>
  Ld (.i .i64) h (p1.add 0) fun x4 =>
  Br (decide (x4 < 1))
  (Q 2 h)
  (Ld (.i .i64) h (p1.add 0) fun x5 =>
  Br (decide (x5 > 4))
  (Q 2 h)
  (J1 (()) h)))
  (fun y2 h3 =>
  Ld (.i .i64) h3 (p1.add 0) fun x6 =>
  Ld (.i .i64) h3 (p2.add 0) fun x7 =>
  Ld (.i .i64) h3 (p3.add 0) fun x8 =>
  NilP p0 fun a9 =>
  St h3 ((a9.add 0).add 0) (.int .i64 x6) fun h10 =>
  (hcell h10 (p3.add 0) = some (.int .i64 x8)) ∧
  (hcell h10 (p2.add 0) = some (.int .i64 x7)) ∧
  NilP p0 fun a11 =>
  St h10 ((a11.add 1).add 0) (.int .i64 x7) fun h12 =>
  (hcell h12 (p3.add 0) = some (.int .i64 x8)) ∧
  NilP p0 fun a13 =>
  St h12 ((a13.add 2).add 0) (.int .i64 x8) fun h14 =>
  Q 0 h14)
noncomputable def F180 := Seal @B180
theorem F180_eq : @F180 = @B180 := Seal_eq _
noncomputable def E180 : Ent Try.prog := mkEnt tabOk 180 Try.f180 (Try.f180.body.getD .skip) Try.func180 (by kernel_rfl)
  []
  ⟨[(3, [])], [], [(3, (.q 0 (.q 1 (.q 2 (.q 3 (.q 4 (.q 5 (.q 6 (.q 7 (.m1 8 (.q 9 (.q 10 (.m1 11 (.q 12 (.q 13 (.m1 14 .done))))))))))))))))]⟩
  [.one .p, .one .a, .one .a, .one .a] (by kernel_rfl)
  (fun x K h => F180 x.1 x.2.1 x.2.2.1 x.2.2.2.1 (fun r1 h' => K (.int .i64 r1) h') h)
  (fun x K h => B180 x.1 x.2.1 x.2.2.1 x.2.2.2.1 (fun r1 h' => K (.int .i64 r1) h') h)
  (by rw [F180_eq]) (fun x K h => by kernel_rfl)

/-- (*pantry/frames.Pool).with -/
def B162Own (p0 : Option Addr) (p1 : Int) (p2 : Addr) (p3 : Addr) (p4 : Addr) (Q : Int → H → Prop) (h : H) : Prop :=
  JoinM (σ := Unit) (fun J1 =>
  F159 p0 (fun r4 h5 =>
  Br (!r4)
  (Q 1 h5)
  (Br (decide (p1 < 0))
  (Q 7 h5)
  (NilP p0 fun a6 =>
  Ld .s h5 ((a6.add 0).add 0) fun x7 =>
  Br (decide (p1 ≥ ((x7.len : Nat) : Int)))
  (Q 7 h5)
  (NilP p0 fun a8 =>
  Ld .s h5 ((a8.add 0).add 0) fun x9 =>
  IdxS x9.a x9.len p1 fun a10 =>
  Ld (.i .i64) h5 (((a10.add (Int.toNat p1 * 5)).add 0).add 0) fun x11 =>
  Br (x11 == 0)
  (Q 2 h5)
  (J1 (()) h5))))) h)
  (fun y2 h3 =>
  NilP p0 fun a12 =>
  Ld .s h3 ((a12.add 0).add 0) fun x13 =>
  IdxS x13.a x13.len p1 fun a14 =>
  F180 (some (a14.add (Int.toNat p1 * 5))) p2 p3 p4 (fun r15 h16 =>
  LetI r15 fun n17 =>
  Q n17 h16) h3)
noncomputable def F162Own := Seal @B162Own
theorem F162Own_eq : @F162Own = @B162Own := Seal_eq _
noncomputable def E162Own : Ent Try.prog := mkEnt tabOk 162 Try.f162 (Try.f162.body.getD .skip) Try.func162 (by kernel_rfl)
  [E159, E180]
  ⟨[(7, [])], [], []⟩
  [.one .p, .one (.i .i64), .fn 180 [.a, .a, .a]] (by kernel_rfl)
  (fun x K h => F162Own x.1 x.2.1 x.2.2.1.1 x.2.2.1.2.1 x.2.2.1.2.2.1 (fun r1 h' => K (.int .i64 r1) h') h)
  (fun x K h => B162Own x.1 x.2.1 x.2.2.1.1 x.2.2.1.2.1 x.2.2.1.2.2.1 (fun r1 h' => K (.int .i64 r1) h') h)
  (by rw [F162Own_eq]) (fun x K h => by kernel_rfl)

/-- (*pantry/frames.Pool).Own -/
def B104 (p0 : Option Addr) (p1 : Int) (p2 : Int) (p3 : Int) (p4 : Int) (Q : Int → H → Prop) (h : H) : Prop :=
  Nw h #[(.int .i64 p2)] 3 fun a1 h2 =>
  Nw h2 #[(.int .i64 p3)] 3 fun a3 h4 =>
  Nw h4 #[(.int .i64 p4)] 3 fun a5 h6 =>
  F162Own p0 p1 a1 a3 a5 (fun r7 h8 =>
  LetI r7 fun n9 =>
  Q n9 h8) h6
noncomputable def F104 := Seal @B104
theorem F104_eq : @F104 = @B104 := Seal_eq _
noncomputable def E104 : Ent Try.prog := mkEnt tabOk 104 Try.f104 (Try.f104.body.getD .skip) Try.func104 (by kernel_rfl)
  [E162Own]
  ⟨[], [], []⟩
  [.one .p, .one (.i .i64), .one (.i .i64), .one (.i .i64), .one (.i .i64)] (by kernel_rfl)
  (fun x K h => F104 x.1 x.2.1 x.2.2.1 x.2.2.2.1 x.2.2.2.2.1 (fun r1 h' => K (.int .i64 r1) h') h)
  (fun x K h => B104 x.1 x.2.1 x.2.2.1 x.2.2.2.1 x.2.2.2.2.1 (fun r1 h' => K (.int .i64 r1) h') h)
  (by rw [F104_eq]) (fun x K h => by kernel_rfl)

/-- pantry/frames.count -/
def B178 (p0 : Option Addr) (p1 : Int) (Q : Int → H → Prop) (h : H) : Prop :=
  JoinM (σ := Unit) (fun J1 =>
  NilP p0 fun a4 =>
  Ld (.i .i64) h (a4.add 0) fun x5 =>
  Br (decide (p1 < (IntKind.wrap .i64 (0 - x5))))
  (Q 2 h)
  (NilP p0 fun a6 =>
  Ld (.i .i64) h (a6.add 0) fun x7 =>
  Br (decide (p1 > (IntKind.wrap .i64 (1000000 - x7))))
  (Q 2 h)
  (J1 (()) h)))
  (fun y2 h3 =>
  NilP p0 fun a8 =>
  Ld (.i .i64) h3 (a8.add 0) fun x9 =>
  NilP p0 fun a10 =>
  St h3 (a10.add 0) (.int .i64 (IntKind.wrap .i64 (x9 + p1))) fun h11 =>
  Q 0 h11)
noncomputable def F178 := Seal @B178
theorem F178_eq : @F178 = @B178 := Seal_eq _
noncomputable def E178 : Ent Try.prog := mkEnt tabOk 178 Try.f178 (Try.f178.body.getD .skip) Try.func178 (by kernel_rfl)
  []
  ⟨[(3, [])], [], []⟩
  [.one .p, .one (.i .i64)] (by kernel_rfl)
  (fun x K h => F178 x.1 x.2.1 (fun r1 h' => K (.int .i64 r1) h') h)
  (fun x K h => B178 x.1 x.2.1 (fun r1 h' => K (.int .i64 r1) h') h)
  (by rw [F178_eq]) (fun x K h => by kernel_rfl)

/-- (*pantry/frames.Pool).Wire$1 -/
def B177 (p0 : Option Addr) (p1 : Addr) (Q : Int → H → Prop) (h : H) : Prop :=
  NilP p0 fun a1 =>
  Ld (.i .i64) h (p1.add 0) fun x2 =>
  F178 (some (a1.add 3)) x2 (fun r3 h4 =>
  LetI r3 fun n5 =>
  Q n5 h4) h
noncomputable def F177 := Seal @B177
theorem F177_eq : @F177 = @B177 := Seal_eq _
noncomputable def E177 : Ent Try.prog := mkEnt tabOk 177 Try.f177 (Try.f177.body.getD .skip) Try.func177 (by kernel_rfl)
  [E178]
  ⟨[], [], [(1, (.q 0 (.q 1 (.q 2 (.q 3 (.m1 4 (.q 5 .done)))))))]⟩
  [.one .p, .one .a] (by kernel_rfl)
  (fun x K h => F177 x.1 x.2.1 (fun r1 h' => K (.int .i64 r1) h') h)
  (fun x K h => B177 x.1 x.2.1 (fun r1 h' => K (.int .i64 r1) h') h)
  (by rw [F177_eq]) (fun x K h => by kernel_rfl)

/-- (*pantry/frames.Pool).with -/
def B162Wire (p0 : Option Addr) (p1 : Int) (p2 : Addr) (Q : Int → H → Prop) (h : H) : Prop :=
  JoinM (σ := Unit) (fun J1 =>
  F159 p0 (fun r4 h5 =>
  Br (!r4)
  (Q 1 h5)
  (Br (decide (p1 < 0))
  (Q 7 h5)
  (NilP p0 fun a6 =>
  Ld .s h5 ((a6.add 0).add 0) fun x7 =>
  Br (decide (p1 ≥ ((x7.len : Nat) : Int)))
  (Q 7 h5)
  (NilP p0 fun a8 =>
  Ld .s h5 ((a8.add 0).add 0) fun x9 =>
  IdxS x9.a x9.len p1 fun a10 =>
  Ld (.i .i64) h5 (((a10.add (Int.toNat p1 * 5)).add 0).add 0) fun x11 =>
  Br (x11 == 0)
  (Q 2 h5)
  (J1 (()) h5))))) h)
  (fun y2 h3 =>
  NilP p0 fun a12 =>
  Ld .s h3 ((a12.add 0).add 0) fun x13 =>
  IdxS x13.a x13.len p1 fun a14 =>
  F177 (some (a14.add (Int.toNat p1 * 5))) p2 (fun r15 h16 =>
  LetI r15 fun n17 =>
  Q n17 h16) h3)
noncomputable def F162Wire := Seal @B162Wire
theorem F162Wire_eq : @F162Wire = @B162Wire := Seal_eq _
noncomputable def E162Wire : Ent Try.prog := mkEnt tabOk 162 Try.f162 (Try.f162.body.getD .skip) Try.func162 (by kernel_rfl)
  [E159, E177]
  ⟨[(7, [])], [], []⟩
  [.one .p, .one (.i .i64), .fn 177 [.a]] (by kernel_rfl)
  (fun x K h => F162Wire x.1 x.2.1 x.2.2.1.1 (fun r1 h' => K (.int .i64 r1) h') h)
  (fun x K h => B162Wire x.1 x.2.1 x.2.2.1.1 (fun r1 h' => K (.int .i64 r1) h') h)
  (by rw [F162Wire_eq]) (fun x K h => by kernel_rfl)

/-- (*pantry/frames.Pool).Wire -/
def B102 (p0 : Option Addr) (p1 : Int) (p2 : Int) (Q : Int → H → Prop) (h : H) : Prop :=
  Nw h #[(.int .i64 p2)] 3 fun a1 h2 =>
  F162Wire p0 p1 a1 (fun r3 h4 =>
  LetI r3 fun n5 =>
  Q n5 h4) h2
noncomputable def F102 := Seal @B102
theorem F102_eq : @F102 = @B102 := Seal_eq _
noncomputable def E102 : Ent Try.prog := mkEnt tabOk 102 Try.f102 (Try.f102.body.getD .skip) Try.func102 (by kernel_rfl)
  [E162Wire]
  ⟨[], [], []⟩
  [.one .p, .one (.i .i64), .one (.i .i64)] (by kernel_rfl)
  (fun x K h => F102 x.1 x.2.1 x.2.2.1 (fun r1 h' => K (.int .i64 r1) h') h)
  (fun x K h => B102 x.1 x.2.1 x.2.2.1 (fun r1 h' => K (.int .i64 r1) h') h)
  (by rw [F102_eq]) (fun x K h => by kernel_rfl)

/-- (*pantry/frames.Pool).Loan$1 -/
def B179 (p0 : Option Addr) (p1 : Addr) (Q : Int → H → Prop) (h : H) : Prop :=
  NilP p0 fun a1 =>
  Ld (.i .i64) h (p1.add 0) fun x2 =>
  F178 (some (a1.add 4)) x2 (fun r3 h4 =>
  LetI r3 fun n5 =>
  Q n5 h4) h
noncomputable def F179 := Seal @B179
theorem F179_eq : @F179 = @B179 := Seal_eq _
noncomputable def E179 : Ent Try.prog := mkEnt tabOk 179 Try.f179 (Try.f179.body.getD .skip) Try.func179 (by kernel_rfl)
  [E178]
  ⟨[], [], [(1, (.q 0 (.q 1 (.q 2 (.q 3 (.m1 4 (.q 5 .done)))))))]⟩
  [.one .p, .one .a] (by kernel_rfl)
  (fun x K h => F179 x.1 x.2.1 (fun r1 h' => K (.int .i64 r1) h') h)
  (fun x K h => B179 x.1 x.2.1 (fun r1 h' => K (.int .i64 r1) h') h)
  (by rw [F179_eq]) (fun x K h => by kernel_rfl)

/-- (*pantry/frames.Pool).with -/
def B162Loan (p0 : Option Addr) (p1 : Int) (p2 : Addr) (Q : Int → H → Prop) (h : H) : Prop :=
  JoinM (σ := Unit) (fun J1 =>
  F159 p0 (fun r4 h5 =>
  Br (!r4)
  (Q 1 h5)
  (Br (decide (p1 < 0))
  (Q 7 h5)
  (NilP p0 fun a6 =>
  Ld .s h5 ((a6.add 0).add 0) fun x7 =>
  Br (decide (p1 ≥ ((x7.len : Nat) : Int)))
  (Q 7 h5)
  (NilP p0 fun a8 =>
  Ld .s h5 ((a8.add 0).add 0) fun x9 =>
  IdxS x9.a x9.len p1 fun a10 =>
  Ld (.i .i64) h5 (((a10.add (Int.toNat p1 * 5)).add 0).add 0) fun x11 =>
  Br (x11 == 0)
  (Q 2 h5)
  (J1 (()) h5))))) h)
  (fun y2 h3 =>
  NilP p0 fun a12 =>
  Ld .s h3 ((a12.add 0).add 0) fun x13 =>
  IdxS x13.a x13.len p1 fun a14 =>
  F179 (some (a14.add (Int.toNat p1 * 5))) p2 (fun r15 h16 =>
  LetI r15 fun n17 =>
  Q n17 h16) h3)
noncomputable def F162Loan := Seal @B162Loan
theorem F162Loan_eq : @F162Loan = @B162Loan := Seal_eq _
noncomputable def E162Loan : Ent Try.prog := mkEnt tabOk 162 Try.f162 (Try.f162.body.getD .skip) Try.func162 (by kernel_rfl)
  [E159, E179]
  ⟨[(7, [])], [], []⟩
  [.one .p, .one (.i .i64), .fn 179 [.a]] (by kernel_rfl)
  (fun x K h => F162Loan x.1 x.2.1 x.2.2.1.1 (fun r1 h' => K (.int .i64 r1) h') h)
  (fun x K h => B162Loan x.1 x.2.1 x.2.2.1.1 (fun r1 h' => K (.int .i64 r1) h') h)
  (by rw [F162Loan_eq]) (fun x K h => by kernel_rfl)

/-- (*pantry/frames.Pool).Loan -/
def B103 (p0 : Option Addr) (p1 : Int) (p2 : Int) (Q : Int → H → Prop) (h : H) : Prop :=
  Nw h #[(.int .i64 p2)] 3 fun a1 h2 =>
  F162Loan p0 p1 a1 (fun r3 h4 =>
  LetI r3 fun n5 =>
  Q n5 h4) h2
noncomputable def F103 := Seal @B103
theorem F103_eq : @F103 = @B103 := Seal_eq _
noncomputable def E103 : Ent Try.prog := mkEnt tabOk 103 Try.f103 (Try.f103.body.getD .skip) Try.func103 (by kernel_rfl)
  [E162Loan]
  ⟨[], [], []⟩
  [.one .p, .one (.i .i64), .one (.i .i64)] (by kernel_rfl)
  (fun x K h => F103 x.1 x.2.1 x.2.2.1 (fun r1 h' => K (.int .i64 r1) h') h)
  (fun x K h => B103 x.1 x.2.1 x.2.2.1 (fun r1 h' => K (.int .i64 r1) h') h)
  (by rw [F103_eq]) (fun x K h => by kernel_rfl)

/-- (*pantry/pantryref06.Pool).Count -/
def B99 (p0 : Option Addr) (p1 : Int) (Q : Int → H → Prop) (h : H) : Prop :=
  NilP p0 fun a1 =>
  Ld .s h ((a1.add 0).add 0) fun x2 =>
  LoopM (σ := Int × Int × Unit) (fun self3 z4 h5 =>
  Br (decide (z4.2.1 < ((x2.len : Nat) : Int)))
  (IdxS x2.a x2.len z4.2.1 fun a6 =>
  Ld (.i .i64) h5 ((a6.add (Int.toNat z4.2.1 * 5)).add 0) fun x7 =>
  Ld (.i .i64) h5 ((a6.add (Int.toNat z4.2.1 * 5)).add 1) fun x8 =>
  Ld (.i .i64) h5 ((a6.add (Int.toNat z4.2.1 * 5)).add 2) fun x9 =>
  Ld (.i .i64) h5 ((a6.add (Int.toNat z4.2.1 * 5)).add 3) fun x10 =>
  Ld (.i .i64) h5 ((a6.add (Int.toNat z4.2.1 * 5)).add 4) fun x11 =>
  Nw h5 (zeroC Try.prog 111) 111 fun a12 h13 =>
  St h13 (a12.add 0) (.int .i64 x7) fun h14 =>
  St h14 (a12.add 1) (.int .i64 x8) fun h15 =>
  St h15 (a12.add 2) (.int .i64 x9) fun h16 =>
  St h16 (a12.add 3) (.int .i64 x10) fun h17 =>
  St h17 (a12.add 4) (.int .i64 x11) fun h18 =>
  Ld (.i .i64) h18 ((a12.add 0).add 0) fun x19 =>
  Br (x19 == p1)
  (LetI (IntKind.wrap .i64 (z4.1 + 1)) fun n20 =>
  self3 (n20, (IntKind.wrap .i64 (z4.2.1 + 1)), ()) h18)
  (self3 (z4.1, (IntKind.wrap .i64 (z4.2.1 + 1)), ()) h18))
  (LetI z4.1 fun n21 =>
  Q n21 h5)) (0, 0, ()) h
noncomputable def F99 := Seal @B99
theorem F99_eq : @F99 = @B99 := Seal_eq _
noncomputable def E99 : Ent Try.prog := mkEnt tabOk 99 Try.f99 (Try.f99.body.getD .skip) Try.func99 (by kernel_rfl)
  []
  ⟨[], [(3, [(5, .one (.i .i64)), (13, .one (.i .i64))])], []⟩
  [.one .p, .one (.i .i64)] (by kernel_rfl)
  (fun x K h => F99 x.1 x.2.1 (fun r1 h' => K (.int .i64 r1) h') h)
  (fun x K h => B99 x.1 x.2.1 (fun r1 h' => K (.int .i64 r1) h') h)
  (by rw [F99_eq]) (fun x K h => by kernel_rfl)

/-- (*pantry/pantryref06.Pool).set -/
def B201 (p0 : Option Addr) (p1 : Int) (p2 : Int) (p3 : Int) (p4 : Int) (p5 : Int) (p6 : Int) (Q : H → Prop) (h : H) : Prop :=
  Nw h #[(.int .i64 p2), (.int .i64 p3), (.int .i64 p4), (.int .i64 p5), (.int .i64 p6)] 111 fun a1 h2 =>
  Nw h2 #[] 111 fun a3 h4 =>
  NilP p0 fun a5 =>
  Ld .s h4 ((a5.add 0).add 0) fun x6 =>
  App Try.prog ⟨none, 111, 5, 40⟩ h4 ⟨(some a3), 0, 0⟩ x6 fun s7 h8 =>
  NilP p0 fun a9 =>
  St h8 ((a9.add 0).add 0) (.slice s7.a s7.len s7.cap) fun h10 =>
  NilP p0 fun a11 =>
  Ld .s h10 ((a11.add 0).add 0) fun x12 =>
  Ld (.i .i64) h10 (a1.add 0) fun x13 =>
  Ld (.i .i64) h10 (a1.add 1) fun x14 =>
  Ld (.i .i64) h10 (a1.add 2) fun x15 =>
  Ld (.i .i64) h10 (a1.add 3) fun x16 =>
  Ld (.i .i64) h10 (a1.add 4) fun x17 =>
  IdxS x12.a x12.len p1 fun a18 =>
  St h10 ((a18.add (Int.toNat p1 * 5)).add 0) (.int .i64 x13) fun h19 =>
  St h19 ((a18.add (Int.toNat p1 * 5)).add 1) (.int .i64 x14) fun h20 =>
  St h20 ((a18.add (Int.toNat p1 * 5)).add 2) (.int .i64 x15) fun h21 =>
  St h21 ((a18.add (Int.toNat p1 * 5)).add 3) (.int .i64 x16) fun h22 =>
  St h22 ((a18.add (Int.toNat p1 * 5)).add 4) (.int .i64 x17) fun h23 =>
  Q  h23
noncomputable def F201 := Seal @B201
theorem F201_eq : @F201 = @B201 := Seal_eq _
noncomputable def E201 : Ent Try.prog := mkEnt tabOk 201 Try.f201 (Try.f201.body.getD .skip) Try.func201 (by kernel_rfl)
  []
  ⟨[], [], [(2, (.q 0 (.q 1 (.q 2 (.q 3 (.q 4 (.q 5 (.q 6 (.m1 7 .done)))))))))]⟩
  [.one .p, .one (.i .i64), .agg [(.i .i64), (.i .i64), (.i .i64), (.i .i64), (.i .i64)]] (by kernel_rfl)
  (fun x K h => F201 x.1 x.2.1 x.2.2.1.1 x.2.2.1.2.1 x.2.2.1.2.2.1 x.2.2.1.2.2.2.1 x.2.2.1.2.2.2.2.1 (fun  h' => K (.tuple #[]) h') h)
  (fun x K h => B201 x.1 x.2.1 x.2.2.1.1 x.2.2.1.2.1 x.2.2.1.2.2.1 x.2.2.1.2.2.2.1 x.2.2.1.2.2.2.2.1 (fun  h' => K (.tuple #[]) h') h)
  (by rw [F201_eq]) (fun x K h => by kernel_rfl)

/-- (*pantry/pantryref06.Pool).Take -/
def B171 (p0 : Option Addr) (p1 : Int) (p2 : Int) (p3 : Int) (Q : Int → Int → H → Prop) (h : H) : Prop :=
  JoinM (σ := Unit) (fun J1 =>
  Br (decide (p1 < 1))
  (Q 0 2 h)
  (Br (decide (p1 > 4))
  (Q 0 2 h)
  (J1 (()) h)))
  (fun y2 h3 =>
  F99 p0 0 (fun r4 h5 =>
  LetI r4 fun n6 =>
  JoinM (σ := Unit) (fun J7 =>
  Br (n6 == 0)
  (Q 0 5 h5)
  (Br (p1 != 1)
  (NilP p0 fun a10 =>
  Ld (.i .i64) h5 ((a10.add 1).add 0) fun x11 =>
  Br (decide (n6 ≤ x11))
  (Q 0 5 h5)
  (J7 (()) h5))
  (J7 (()) h5)))
  (fun y8 h9 =>
  NilP p0 fun a12 =>
  Ld .s h9 ((a12.add 0).add 0) fun x13 =>
  LoopM (σ := Int × Unit) (fun self14 z15 h16 =>
  Br (decide (z15.1 < ((x13.len : Nat) : Int)))
  (IdxS x13.a x13.len z15.1 fun a17 =>
  Ld (.i .i64) h16 ((a17.add (Int.toNat z15.1 * 5)).add 0) fun x18 =>
  Ld (.i .i64) h16 ((a17.add (Int.toNat z15.1 * 5)).add 1) fun x19 =>
  Ld (.i .i64) h16 ((a17.add (Int.toNat z15.1 * 5)).add 2) fun x20 =>
  Ld (.i .i64) h16 ((a17.add (Int.toNat z15.1 * 5)).add 3) fun x21 =>
  Ld (.i .i64) h16 ((a17.add (Int.toNat z15.1 * 5)).add 4) fun x22 =>
  Nw h16 (zeroC Try.prog 111) 111 fun a23 h24 =>
  LetI z15.1 fun n25 =>
  St h24 (a23.add 0) (.int .i64 x18) fun h26 =>
  St h26 (a23.add 1) (.int .i64 x19) fun h27 =>
  St h27 (a23.add 2) (.int .i64 x20) fun h28 =>
  St h28 (a23.add 3) (.int .i64 x21) fun h29 =>
  St h29 (a23.add 4) (.int .i64 x22) fun h30 =>
  Ld (.i .i64) h30 ((a23.add 0).add 0) fun x31 =>
  Br (x31 == 0)
  (F201 p0 n25 p1 p2 p3 0 0 (fun  h32 =>
  LetI n25 fun n33 =>
  Q n33 0 h32) h30)
  (self14 ((IntKind.wrap .i64 (z15.1 + 1)), ()) h30))
  (Q 0 5 h16)) (0, ()) h9)) h3)
noncomputable def F171 := Seal @B171
theorem F171_eq : @F171 = @B171 := Seal_eq _
noncomputable def E171 : Ent Try.prog := mkEnt tabOk 171 Try.f171 (Try.f171.body.getD .skip) Try.func171 (by kernel_rfl)
  [E99, E201]
  ⟨[(3, []), (6, [])], [(7, [(40, .one (.i .i64))])], []⟩
  [.one .p, .one (.i .i64), .one (.i .i64), .one (.i .i64)] (by kernel_rfl)
  (fun x K h => F171 x.1 x.2.1 x.2.2.1 x.2.2.2.1 (fun r1 r2 h' => K (.tuple #[(.int .i64 r1), (.int .i64 r2)]) h') h)
  (fun x K h => B171 x.1 x.2.1 x.2.2.1 x.2.2.2.1 (fun r1 r2 h' => K (.tuple #[(.int .i64 r1), (.int .i64 r2)]) h') h)
  (by rw [F171_eq]) (fun x K h => by kernel_rfl)

/-- (*pantry/pantryref06.Pool).Is -/
def B176 (p0 : Option Addr) (p1 : Int) (Q : Bool → H → Prop) (h : H) : Prop :=
  Br (decide (p1 ≥ 0))
  (NilP p0 fun a1 =>
  Ld .s h ((a1.add 0).add 0) fun x2 =>
  Q (decide (p1 < ((x2.len : Nat) : Int))) h)
  (Q false h)
noncomputable def F176 := Seal @B176
theorem F176_eq : @F176 = @B176 := Seal_eq _
noncomputable def E176 : Ent Try.prog := mkEnt tabOk 176 Try.f176 (Try.f176.body.getD .skip) Try.func176 (by kernel_rfl)
  []
  ⟨[], [], []⟩
  [.one .p, .one (.i .i64)] (by kernel_rfl)
  (fun x K h => F176 x.1 x.2.1 (fun r1 h' => K (.bool r1) h') h)
  (fun x K h => B176 x.1 x.2.1 (fun r1 h' => K (.bool r1) h') h)
  (by rw [F176_eq]) (fun x K h => by kernel_rfl)

/-- (*pantry/pantryref06.Pool).Give -/
def B172 (p0 : Option Addr) (p1 : Int) (Q : Int → H → Prop) (h : H) : Prop :=
  JoinM (σ := Unit) (fun J1 =>
  F176 p0 p1 (fun r4 h5 =>
  Br (!r4)
  (Q 7 h5)
  (NilP p0 fun a6 =>
  Ld .s h5 ((a6.add 0).add 0) fun x7 =>
  IdxS x7.a x7.len p1 fun a8 =>
  Ld (.i .i64) h5 (((a8.add (Int.toNat p1 * 5)).add 0).add 0) fun x9 =>
  Br (x9 == 0)
  (Q 2 h5)
  (NilP p0 fun a10 =>
  Ld .s h5 ((a10.add 0).add 0) fun x11 =>
  IdxS x11.a x11.len p1 fun a12 =>
  Ld (.i .i64) h5 (((a12.add (Int.toNat p1 * 5)).add 3).add 0) fun x13 =>
  Br (x13 != 0)
  (Q 8 h5)
  (NilP p0 fun a14 =>
  Ld .s h5 ((a14.add 0).add 0) fun x15 =>
  IdxS x15.a x15.len p1 fun a16 =>
  Ld (.i .i64) h5 (((a16.add (Int.toNat p1 * 5)).add 4).add 0) fun x17 =>
  Br (x17 != 0)
  (Q 8 h5)
  (J1 (()) h5))))) h)
  (fun y2 h3 =>
  F201 p0 p1 0 0 0 0 0 (fun  h18 =>
  Q 0 h18) h3)
noncomputable def F172 := Seal @B172
theorem F172_eq : @F172 = @B172 := Seal_eq _
noncomputable def E172 : Ent Try.prog := mkEnt tabOk 172 Try.f172 (Try.f172.body.getD .skip) Try.func172 (by kernel_rfl)
  [E176, E201]
  ⟨[(7, [])], [], []⟩
  [.one .p, .one (.i .i64)] (by kernel_rfl)
  (fun x K h => F172 x.1 x.2.1 (fun r1 h' => K (.int .i64 r1) h') h)
  (fun x K h => B172 x.1 x.2.1 (fun r1 h' => K (.int .i64 r1) h') h)
  (by rw [F172_eq]) (fun x K h => by kernel_rfl)

/-- (*pantry/pantryref06.Pool).Own -/
def B173 (p0 : Option Addr) (p1 : Int) (p2 : Int) (p3 : Int) (p4 : Int) (Q : Int → H → Prop) (h : H) : Prop :=
  JoinM (σ := Unit) (fun J1 =>
  F176 p0 p1 (fun r4 h5 =>
  Br (!r4)
  (Q 7 h5)
  (NilP p0 fun a6 =>
  Ld .s h5 ((a6.add 0).add 0) fun x7 =>
  IdxS x7.a x7.len p1 fun a8 =>
  Ld (.i .i64) h5 (((a8.add (Int.toNat p1 * 5)).add 0).add 0) fun x9 =>
  Br (x9 == 0)
  (Q 2 h5)
  (Br (decide (p2 < 1))
  (Q 2 h5)
  (Br (decide (p2 > 4))
  (Q 2 h5)
  (J1 (()) h5))))) h)
  (fun y2 h3 =>
  NilP p0 fun a10 =>
  Ld .s h3 ((a10.add 0).add 0) fun x11 =>
  IdxS x11.a x11.len p1 fun a12 =>
  Ld (.i .i64) h3 ((a12.add (Int.toNat p1 * 5)).add 0) fun x13 =>
  Ld (.i .i64) h3 ((a12.add (Int.toNat p1 * 5)).add 1) fun x14 =>
  Ld (.i .i64) h3 ((a12.add (Int.toNat p1 * 5)).add 2) fun x15 =>
  Ld (.i .i64) h3 ((a12.add (Int.toNat p1 * 5)).add 3) fun x16 =>
  Ld (.i .i64) h3 ((a12.add (Int.toNat p1 * 5)).add 4) fun x17 =>
  Nw h3 (zeroC Try.prog 111) 111 fun a18 h19 =>
  St h19 (a18.add 0) (.int .i64 x13) fun h20 =>
  St h20 (a18.add 1) (.int .i64 x14) fun h21 =>
  St h21 (a18.add 2) (.int .i64 x15) fun h22 =>
  St h22 (a18.add 3) (.int .i64 x16) fun h23 =>
  St h23 (a18.add 4) (.int .i64 x17) fun h24 =>
  St h24 ((a18.add 0).add 0) (.int .i64 p2) fun h25 =>
  St h25 ((a18.add 1).add 0) (.int .i64 p3) fun h26 =>
  St h26 ((a18.add 2).add 0) (.int .i64 p4) fun h27 =>
  Ld (.i .i64) h27 (a18.add 0) fun x28 =>
  Ld (.i .i64) h27 (a18.add 1) fun x29 =>
  Ld (.i .i64) h27 (a18.add 2) fun x30 =>
  Ld (.i .i64) h27 (a18.add 3) fun x31 =>
  Ld (.i .i64) h27 (a18.add 4) fun x32 =>
  F201 p0 p1 x28 x29 x30 x31 x32 (fun  h33 =>
  Q 0 h33) h27)
noncomputable def F173 := Seal @B173
theorem F173_eq : @F173 = @B173 := Seal_eq _
noncomputable def E173 : Ent Try.prog := mkEnt tabOk 173 Try.f173 (Try.f173.body.getD .skip) Try.func173 (by kernel_rfl)
  [E176, E201]
  ⟨[(5, [])], [], []⟩
  [.one .p, .one (.i .i64), .one (.i .i64), .one (.i .i64), .one (.i .i64)] (by kernel_rfl)
  (fun x K h => F173 x.1 x.2.1 x.2.2.1 x.2.2.2.1 x.2.2.2.2.1 (fun r1 h' => K (.int .i64 r1) h') h)
  (fun x K h => B173 x.1 x.2.1 x.2.2.1 x.2.2.2.1 x.2.2.2.2.1 (fun r1 h' => K (.int .i64 r1) h') h)
  (by rw [F173_eq]) (fun x K h => by kernel_rfl)

/-- pantry/pantryref06.may -/
def B202 (p0 : Int) (p1 : Int) (Q : Bool → H → Prop) (h : H) : Prop :=
  Br (decide (p1 ≥ (IntKind.wrap .i64 (0 - p0))))
  (Q (decide (p1 ≤ (IntKind.wrap .i64 (1000000 - p0)))) h)
  (Q false h)
noncomputable def F202 := Seal @B202
theorem F202_eq : @F202 = @B202 := Seal_eq _
noncomputable def E202 : Ent Try.prog := mkEnt tabOk 202 Try.f202 (Try.f202.body.getD .skip) Try.func202 (by kernel_rfl)
  []
  ⟨[], [], []⟩
  [.one (.i .i64), .one (.i .i64)] (by kernel_rfl)
  (fun x K h => F202 x.1 x.2.1 (fun r1 h' => K (.bool r1) h') h)
  (fun x K h => B202 x.1 x.2.1 (fun r1 h' => K (.bool r1) h') h)
  (by rw [F202_eq]) (fun x K h => by kernel_rfl)

/-- (*pantry/pantryref06.Pool).Wire -/
def B174 (p0 : Option Addr) (p1 : Int) (p2 : Int) (Q : Int → H → Prop) (h : H) : Prop :=
  JoinM (σ := Unit) (fun J1 =>
  F176 p0 p1 (fun r4 h5 =>
  Br (!r4)
  (Q 7 h5)
  (NilP p0 fun a6 =>
  Ld .s h5 ((a6.add 0).add 0) fun x7 =>
  IdxS x7.a x7.len p1 fun a8 =>
  Ld (.i .i64) h5 (((a8.add (Int.toNat p1 * 5)).add 0).add 0) fun x9 =>
  Br (x9 == 0)
  (Q 2 h5)
  (NilP p0 fun a10 =>
  Ld .s h5 ((a10.add 0).add 0) fun x11 =>
  IdxS x11.a x11.len p1 fun a12 =>
  Ld (.i .i64) h5 (((a12.add (Int.toNat p1 * 5)).add 3).add 0) fun x13 =>
  F202 x13 p2 (fun r14 h15 =>
  Br (!r14)
  (Q 2 h15)
  (J1 (()) h15)) h5))) h)
  (fun y2 h3 =>
  NilP p0 fun a16 =>
  Ld .s h3 ((a16.add 0).add 0) fun x17 =>
  IdxS x17.a x17.len p1 fun a18 =>
  Ld (.i .i64) h3 ((a18.add (Int.toNat p1 * 5)).add 0) fun x19 =>
  Ld (.i .i64) h3 ((a18.add (Int.toNat p1 * 5)).add 1) fun x20 =>
  Ld (.i .i64) h3 ((a18.add (Int.toNat p1 * 5)).add 2) fun x21 =>
  Ld (.i .i64) h3 ((a18.add (Int.toNat p1 * 5)).add 3) fun x22 =>
  Ld (.i .i64) h3 ((a18.add (Int.toNat p1 * 5)).add 4) fun x23 =>
  Nw h3 (zeroC Try.prog 111) 111 fun a24 h25 =>
  St h25 (a24.add 0) (.int .i64 x19) fun h26 =>
  St h26 (a24.add 1) (.int .i64 x20) fun h27 =>
  St h27 (a24.add 2) (.int .i64 x21) fun h28 =>
  St h28 (a24.add 3) (.int .i64 x22) fun h29 =>
  St h29 (a24.add 4) (.int .i64 x23) fun h30 =>
  Ld (.i .i64) h30 ((a24.add 3).add 0) fun x31 =>
  St h30 ((a24.add 3).add 0) (.int .i64 (IntKind.wrap .i64 (x31 + p2))) fun h32 =>
  Ld (.i .i64) h32 (a24.add 0) fun x33 =>
  Ld (.i .i64) h32 (a24.add 1) fun x34 =>
  Ld (.i .i64) h32 (a24.add 2) fun x35 =>
  Ld (.i .i64) h32 (a24.add 3) fun x36 =>
  Ld (.i .i64) h32 (a24.add 4) fun x37 =>
  F201 p0 p1 x33 x34 x35 x36 x37 (fun  h38 =>
  Q 0 h38) h32)
noncomputable def F174 := Seal @B174
theorem F174_eq : @F174 = @B174 := Seal_eq _
noncomputable def E174 : Ent Try.prog := mkEnt tabOk 174 Try.f174 (Try.f174.body.getD .skip) Try.func174 (by kernel_rfl)
  [E176, E202, E201]
  ⟨[(5, [])], [], []⟩
  [.one .p, .one (.i .i64), .one (.i .i64)] (by kernel_rfl)
  (fun x K h => F174 x.1 x.2.1 x.2.2.1 (fun r1 h' => K (.int .i64 r1) h') h)
  (fun x K h => B174 x.1 x.2.1 x.2.2.1 (fun r1 h' => K (.int .i64 r1) h') h)
  (by rw [F174_eq]) (fun x K h => by kernel_rfl)

/-- (*pantry/pantryref06.Pool).Loan -/
def B175 (p0 : Option Addr) (p1 : Int) (p2 : Int) (Q : Int → H → Prop) (h : H) : Prop :=
  JoinM (σ := Unit) (fun J1 =>
  F176 p0 p1 (fun r4 h5 =>
  Br (!r4)
  (Q 7 h5)
  (NilP p0 fun a6 =>
  Ld .s h5 ((a6.add 0).add 0) fun x7 =>
  IdxS x7.a x7.len p1 fun a8 =>
  Ld (.i .i64) h5 (((a8.add (Int.toNat p1 * 5)).add 0).add 0) fun x9 =>
  Br (x9 == 0)
  (Q 2 h5)
  (NilP p0 fun a10 =>
  Ld .s h5 ((a10.add 0).add 0) fun x11 =>
  IdxS x11.a x11.len p1 fun a12 =>
  Ld (.i .i64) h5 (((a12.add (Int.toNat p1 * 5)).add 4).add 0) fun x13 =>
  F202 x13 p2 (fun r14 h15 =>
  Br (!r14)
  (Q 2 h15)
  (J1 (()) h15)) h5))) h)
  (fun y2 h3 =>
  NilP p0 fun a16 =>
  Ld .s h3 ((a16.add 0).add 0) fun x17 =>
  IdxS x17.a x17.len p1 fun a18 =>
  Ld (.i .i64) h3 ((a18.add (Int.toNat p1 * 5)).add 0) fun x19 =>
  Ld (.i .i64) h3 ((a18.add (Int.toNat p1 * 5)).add 1) fun x20 =>
  Ld (.i .i64) h3 ((a18.add (Int.toNat p1 * 5)).add 2) fun x21 =>
  Ld (.i .i64) h3 ((a18.add (Int.toNat p1 * 5)).add 3) fun x22 =>
  Ld (.i .i64) h3 ((a18.add (Int.toNat p1 * 5)).add 4) fun x23 =>
  Nw h3 (zeroC Try.prog 111) 111 fun a24 h25 =>
  St h25 (a24.add 0) (.int .i64 x19) fun h26 =>
  St h26 (a24.add 1) (.int .i64 x20) fun h27 =>
  St h27 (a24.add 2) (.int .i64 x21) fun h28 =>
  St h28 (a24.add 3) (.int .i64 x22) fun h29 =>
  St h29 (a24.add 4) (.int .i64 x23) fun h30 =>
  Ld (.i .i64) h30 ((a24.add 4).add 0) fun x31 =>
  St h30 ((a24.add 4).add 0) (.int .i64 (IntKind.wrap .i64 (x31 + p2))) fun h32 =>
  Ld (.i .i64) h32 (a24.add 0) fun x33 =>
  Ld (.i .i64) h32 (a24.add 1) fun x34 =>
  Ld (.i .i64) h32 (a24.add 2) fun x35 =>
  Ld (.i .i64) h32 (a24.add 3) fun x36 =>
  Ld (.i .i64) h32 (a24.add 4) fun x37 =>
  F201 p0 p1 x33 x34 x35 x36 x37 (fun  h38 =>
  Q 0 h38) h32)
noncomputable def F175 := Seal @B175
theorem F175_eq : @F175 = @B175 := Seal_eq _
noncomputable def E175 : Ent Try.prog := mkEnt tabOk 175 Try.f175 (Try.f175.body.getD .skip) Try.func175 (by kernel_rfl)
  [E176, E202, E201]
  ⟨[(5, [])], [], []⟩
  [.one .p, .one (.i .i64), .one (.i .i64)] (by kernel_rfl)
  (fun x K h => F175 x.1 x.2.1 x.2.2.1 (fun r1 h' => K (.int .i64 r1) h') h)
  (fun x K h => B175 x.1 x.2.1 x.2.2.1 (fun r1 h' => K (.int .i64 r1) h') h)
  (by rw [F175_eq]) (fun x K h => by kernel_rfl)

/-- (*pantry/pantryref06.Pool).Get -/
def B101 (p0 : Option Addr) (p1 : Int) (Q : Int → Int → Int → Int → Int → Bool → H → Prop) (h : H) : Prop :=
  Nw h (zeroC Try.prog 111) 111 fun a1 h2 =>
  F176 p0 p1 (fun r3 h4 =>
  Br (!r3)
  (St h4 (a1.add 0) (.int .i64 0) fun h5 =>
  St h5 (a1.add 1) (.int .i64 0) fun h6 =>
  St h6 (a1.add 2) (.int .i64 0) fun h7 =>
  St h7 (a1.add 3) (.int .i64 0) fun h8 =>
  St h8 (a1.add 4) (.int .i64 0) fun h9 =>
  Ld (.i .i64) h9 (a1.add 0) fun x10 =>
  Ld (.i .i64) h9 (a1.add 1) fun x11 =>
  Ld (.i .i64) h9 (a1.add 2) fun x12 =>
  Ld (.i .i64) h9 (a1.add 3) fun x13 =>
  Ld (.i .i64) h9 (a1.add 4) fun x14 =>
  Q x10 x11 x12 x13 x14 false h9)
  (NilP p0 fun a15 =>
  Ld .s h4 ((a15.add 0).add 0) fun x16 =>
  IdxS x16.a x16.len p1 fun a17 =>
  Ld (.i .i64) h4 ((a17.add (Int.toNat p1 * 5)).add 0) fun x18 =>
  Ld (.i .i64) h4 ((a17.add (Int.toNat p1 * 5)).add 1) fun x19 =>
  Ld (.i .i64) h4 ((a17.add (Int.toNat p1 * 5)).add 2) fun x20 =>
  Ld (.i .i64) h4 ((a17.add (Int.toNat p1 * 5)).add 3) fun x21 =>
  Ld (.i .i64) h4 ((a17.add (Int.toNat p1 * 5)).add 4) fun x22 =>
  St h4 (a1.add 0) (.int .i64 x18) fun h23 =>
  St h23 (a1.add 1) (.int .i64 x19) fun h24 =>
  St h24 (a1.add 2) (.int .i64 x20) fun h25 =>
  St h25 (a1.add 3) (.int .i64 x21) fun h26 =>
  St h26 (a1.add 4) (.int .i64 x22) fun h27 =>
  Ld (.i .i64) h27 (a1.add 0) fun x28 =>
  Ld (.i .i64) h27 (a1.add 1) fun x29 =>
  Ld (.i .i64) h27 (a1.add 2) fun x30 =>
  Ld (.i .i64) h27 (a1.add 3) fun x31 =>
  Ld (.i .i64) h27 (a1.add 4) fun x32 =>
  Q x28 x29 x30 x31 x32 true h27)) h2
noncomputable def F101 := Seal @B101
theorem F101_eq : @F101 = @B101 := Seal_eq _
noncomputable def E101 : Ent Try.prog := mkEnt tabOk 101 Try.f101 (Try.f101.body.getD .skip) Try.func101 (by kernel_rfl)
  [E176]
  ⟨[], [], []⟩
  [.one .p, .one (.i .i64)] (by kernel_rfl)
  (fun x K h => F101 x.1 x.2.1 (fun r1 r2 r3 r4 r5 r6 h' => K (.tuple #[(.agg #[(.int .i64 r1), (.int .i64 r2), (.int .i64 r3), (.int .i64 r4), (.int .i64 r5)]), (.bool r6)]) h') h)
  (fun x K h => B101 x.1 x.2.1 (fun r1 r2 r3 r4 r5 r6 h' => K (.tuple #[(.agg #[(.int .i64 r1), (.int .i64 r2), (.int .i64 r3), (.int .i64 r4), (.int .i64 r5)]), (.bool r6)]) h') h)
  (by rw [F101_eq]) (fun x K h => by kernel_rfl)

end Go.Proofs.Ytfijchofplkcoaa
