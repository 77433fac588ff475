/-
  PRINTED BY wip/tools/emit.py: what each Go function comes to, as a predicate over the heap (the kernel holds each against the translated program).
-/
import Derived.Test.YtfijchofplkcoaaGb
set_option linter.unusedVariables false
set_option maxRecDepth 100000
namespace Go.Proofs.Ytfijchofplkcoaa

/-- pantry/pantrylaw01.lives -/
def B62 (Q : Bool → H → Prop) (h : H) : Prop :=
  F61 2 (fun r1 h2 =>
  JoinM (σ := Unit) (fun J3 =>
  Br (Option.isNone r1)
  (Q false h2)
  (F82 r1 0 1 258 (fun r6 h7 =>
  Br (!r6)
  (Q false h7)
  (J3 (()) h7)) h2))
  (fun y4 h5 =>
  F84 r1 0 8 (fun r8 r9 h10 =>
  LetI r8 fun n11 =>
  F84 r1 0 9 (fun r12 r13 h14 =>
  LetI r12 fun n15 =>
  Br (n11 == 2)
  (Br (n15 == 1)
  (Br r13
  (F93 r1 (fun r16 h17 =>
  Q (r16 == 2) h17) h14)
  (Q false h14))
  (Q false h14))
  (Q false h14)) h10) h5)) h
noncomputable def F62 := Seal @B62
theorem F62_eq : @F62 = @B62 := Seal_eq _
noncomputable def E62 : Ent Try.prog := mkEnt tabOk 62 Try.f62 (Try.f62.body.getD .skip) Try.func62 (by kernel_rfl)
  [E61, E82, E84, E93]
  ⟨[(4, [])], [], []⟩
  [] (by kernel_rfl)
  (fun x K h => F62  (fun r1 h' => K (.bool r1) h') h)
  (fun x K h => B62  (fun r1 h' => K (.bool r1) h') h)
  (by rw [F62_eq]) (fun x K h => by kernel_rfl)

/-- pantry/pantrylaw01.PhysOwn -/
def B11 (p0 : Sl) (p1 : Int) (Q : Bool → H → Prop) (h : H) : Prop :=
  F61 1 (fun r1 h2 =>
  JoinM (σ := Unit) (fun J3 =>
  Br (Option.isNone r1)
  (Br (!(Option.isNone r1))
  (F62  (fun r6 h7 =>
  Q r6 h7) h2)
  (Q false h2))
  (Br (decide (((p0.len : Nat) : Int) > 5000))
  (Br (!(Option.isNone r1))
  (F62  (fun r8 h9 =>
  Q r8 h9) h2)
  (Q false h2))
  (J3 (()) h2)))
  (fun y4 h5 =>
  Nw h5 #[] 5 fun a10 h11 =>
  App Try.prog ⟨none, 5, 1, 1⟩ h11 ⟨(some a10), 0, 0⟩ p0 fun s12 h13 =>
  F63 r1 0 s12 (fun r14 h15 =>
  F64 r1 0 (fun r16 h17 =>
  LoopM (σ := Int × Unit) (fun self18 z19 h20 =>
  Br (decide (z19.1 < ((s12.len : Nat) : Int)))
  (LetI z19.1 fun n21 =>
  IdxS s12.a s12.len n21 fun a22 =>
  Ld (.i .u8) h20 ((a22.add (Int.toNat n21 * 1)).add 0) fun x23 =>
  IdxS s12.a s12.len n21 fun a24 =>
  St h20 ((a24.add (Int.toNat n21 * 1)).add 0) (.int .u8 (IntKind.wrap .u8 (x23 + 1))) fun h25 =>
  self18 ((IntKind.wrap .i64 (z19.1 + 1)), ()) h25)
  (F64 r1 0 (fun r26 h27 =>
  Br (((r26.len : Nat) : Int) != 4096)
  (Q false h27)
  (Asr ((4096 : Int) ≠ 0)
  (IdxS r26.a r26.len (Int.tmod p1 4096) fun a28 =>
  Ld (.i .u8) h27 ((a28.add (Int.toNat (Int.tmod p1 4096) * 1)).add 0) fun x29 =>
  IdxS r26.a r26.len (Int.tmod p1 4096) fun a30 =>
  St h27 ((a30.add (Int.toNat (Int.tmod p1 4096) * 1)).add 0) (.int .u8 (IntKind.wrap .u8 (x29 + 1))) fun h31 =>
  F64 r1 0 (fun r32 h33 =>
  F65 r32 r16 (fun r34 h35 =>
  Br r34
  (F62  (fun r36 h37 =>
  Q r36 h37) h35)
  (Q false h35)) h33) h31))) h20)) (0, ()) h17) h15) h13)) h
noncomputable def F11 := Seal @B11
theorem F11_eq : @F11 = @B11 := Seal_eq _
noncomputable def E11 : Ent Try.prog := mkEnt tabOk 11 Try.f11 (Try.f11.body.getD .skip) Try.func11 (by kernel_rfl)
  [E61, E62, E63, E64, E65]
  ⟨[(4, [])], [(8, [(33, .one (.i .i64))])], []⟩
  [.one .s, .one (.i .u64)] (by kernel_rfl)
  (fun x K h => F11 x.1 x.2.1 (fun r1 h' => K (.bool r1) h') h)
  (fun x K h => B11 x.1 x.2.1 (fun r1 h' => K (.bool r1) h') h)
  (by rw [F11_eq]) (fun x K h => by kernel_rfl)

/-- pantry/pantrylaw01.PhysFills -/
def B12 (p0 : Sl) (p1 : Sl) (Q : Bool → H → Prop) (h : H) : Prop :=
  F61 1 (fun r1 h2 =>
  JoinM (σ := Unit) (fun J3 =>
  Br (Option.isNone r1)
  (Br (!(Option.isNone r1))
  (F62  (fun r6 h7 =>
  Q r6 h7) h2)
  (Q false h2))
  (Br (decide (((p0.len : Nat) : Int) > 5000))
  (Br (!(Option.isNone r1))
  (F62  (fun r8 h9 =>
  Q r8 h9) h2)
  (Q false h2))
  (Br (decide (((p1.len : Nat) : Int) > 5000))
  (Br (!(Option.isNone r1))
  (F62  (fun r10 h11 =>
  Q r10 h11) h2)
  (Q false h2))
  (J3 (()) h2))))
  (fun y4 h5 =>
  JoinM (σ := Unit) (fun J12 =>
  F63 r1 0 p0 (fun r15 h16 =>
  Br (!r15)
  (Q false h16)
  (F63 r1 0 p1 (fun r17 h18 =>
  Br (!r17)
  (Q false h18)
  (J12 (()) h18)) h16)) h5)
  (fun y13 h14 =>
  F64 r1 0 (fun r19 h20 =>
  Br (((r19.len : Nat) : Int) != 4096)
  (Q false h20)
  (LoopM (σ := Int × Unit) (fun self21 z22 h23 =>
  Br (decide (z22.1 < ((r19.len : Nat) : Int)))
  (IdxS r19.a r19.len z22.1 fun a24 =>
  Ld (.i .u8) h23 ((a24.add (Int.toNat z22.1 * 1)).add 0) fun x25 =>
  LetI z22.1 fun n26 =>
  LetI x25 fun n27 =>
  Br (decide (n26 < ((p1.len : Nat) : Int)))
  (IdxS p1.a p1.len n26 fun a28 =>
  Ld (.i .u8) h23 ((a28.add (Int.toNat n26 * 1)).add 0) fun x29 =>
  Br (n27 != x29)
  (Q false h23)
  (Br (decide (n26 ≥ ((p1.len : Nat) : Int)))
  (Br (n27 != 0)
  (Q false h23)
  (self21 ((IntKind.wrap .i64 (z22.1 + 1)), ()) h23))
  (self21 ((IntKind.wrap .i64 (z22.1 + 1)), ()) h23)))
  (Br (decide (n26 ≥ ((p1.len : Nat) : Int)))
  (Br (n27 != 0)
  (Q false h23)
  (self21 ((IntKind.wrap .i64 (z22.1 + 1)), ()) h23))
  (self21 ((IntKind.wrap .i64 (z22.1 + 1)), ()) h23)))
  (F62  (fun r30 h31 =>
  Q r30 h31) h23)) (0, ()) h20)) h14))) h
noncomputable def F12 := Seal @B12
theorem F12_eq : @F12 = @B12 := Seal_eq _
noncomputable def E12 : Ent Try.prog := mkEnt tabOk 12 Try.f12 (Try.f12.body.getD .skip) Try.func12 (by kernel_rfl)
  [E61, E62, E63, E64]
  ⟨[(4, []), (6, [])], [(10, [(44, .one (.i .i64))])], []⟩
  [.one .s, .one .s] (by kernel_rfl)
  (fun x K h => F12 x.1 x.2.1 (fun r1 h' => K (.bool r1) h') h)
  (fun x K h => B12 x.1 x.2.1 (fun r1 h' => K (.bool r1) h') h)
  (by rw [F12_eq]) (fun x K h => by kernel_rfl)

/-- pantry/pantrylaw01.PhysBytes -/
def B14 (p0 : Sl) (p1 : Int) (p2 : Int) (Q : Bool → H → Prop) (h : H) : Prop :=
  F61 2 (fun r1 h2 =>
  JoinM (σ := Unit) (fun J3 =>
  Br (Option.isNone r1)
  (Br (!(Option.isNone r1))
  (Br (decide (((p0.len : Nat) : Int) > 5000))
  (F62  (fun r6 h7 =>
  Q r6 h7) h2)
  (Q false h2))
  (Q false h2))
  (Br (decide (((p0.len : Nat) : Int) > 5000))
  (Br (!(Option.isNone r1))
  (Br (decide (((p0.len : Nat) : Int) > 5000))
  (F62  (fun r8 h9 =>
  Q r8 h9) h2)
  (Q false h2))
  (Q false h2))
  (F63 r1 1 p0 (fun r10 h11 =>
  Br (!r10)
  (Br (!(Option.isNone r1))
  (Br (decide (((p0.len : Nat) : Int) > 5000))
  (F62  (fun r12 h13 =>
  Q r12 h13) h11)
  (Q false h11))
  (Q false h11))
  (J3 (()) h11)) h2)))
  (fun y4 h5 =>
  F64 r1 1 (fun r14 h15 =>
  Asr ((4096 : Int) ≠ 0)
  (LetI (IntKind.wrap .i64 (Int.tmod p1 4096)) fun n16 =>
  JoinM (σ := Unit) (fun J17 =>
  F74 r1 1 n16 p2 (fun r20 h21 =>
  Br (!r20)
  (Q false h21)
  (F74 r1 1 4096 p2 (fun r22 h23 =>
  Br r22
  (Q false h23)
  (F74 r1 2 n16 p2 (fun r24 h25 =>
  Br r24
  (Q false h25)
  (Br (((r14.len : Nat) : Int) != 4096)
  (Q false h25)
  (J17 (()) h25))) h23)) h21)) h15)
  (fun y18 h19 =>
  IdxS r14.a r14.len n16 fun a26 =>
  St h19 ((a26.add (Int.toNat n16 * 1)).add 0) (.int .u8 p2) fun h27 =>
  F64 r1 1 (fun r28 h29 =>
  F65 r28 r14 (fun r30 h31 =>
  Br r30
  (F62  (fun r32 h33 =>
  Q r32 h33) h31)
  (Q false h31)) h29) h27))) h5)) h
noncomputable def F14 := Seal @B14
theorem F14_eq : @F14 = @B14 := Seal_eq _
noncomputable def E14 : Ent Try.prog := mkEnt tabOk 14 Try.f14 (Try.f14.body.getD .skip) Try.func14 (by kernel_rfl)
  [E61, E62, E63, E64, E74, E65]
  ⟨[(4, []), (8, [])], [], []⟩
  [.one .s, .one (.i .u64), .one (.i .u8)] (by kernel_rfl)
  (fun x K h => F14 x.1 x.2.1 x.2.2.1 (fun r1 h' => K (.bool r1) h') h)
  (fun x K h => B14 x.1 x.2.1 x.2.2.1 (fun r1 h' => K (.bool r1) h') h)
  (by rw [F14_eq]) (fun x K h => by kernel_rfl)

/-- pantry/pantrylaw01.light -/
def B80 (p0 : Sl) (Q : Bool → H → Prop) (h : H) : Prop :=
  Br (decide (((p0.len : Nat) : Int) > 60))
  (Q false h)
  (LoopM (σ := Int × Int × Unit) (fun self1 z2 h3 =>
  Br (decide (z2.2.1 < ((p0.len : Nat) : Int)))
  (IdxS p0.a p0.len z2.2.1 fun a4 =>
  Ld (.i .i64) h3 ((a4.add (Int.toNat z2.2.1 * 5)).add 0) fun x5 =>
  Ld (.i .i64) h3 ((a4.add (Int.toNat z2.2.1 * 5)).add 1) fun x6 =>
  Ld (.i .i64) h3 ((a4.add (Int.toNat z2.2.1 * 5)).add 2) fun x7 =>
  Ld (.i .u64) h3 ((a4.add (Int.toNat z2.2.1 * 5)).add 3) fun x8 =>
  Ld .s h3 ((a4.add (Int.toNat z2.2.1 * 5)).add 4) fun x9 =>
  Nw h3 (zeroC Try.prog 77) 77 fun a10 h11 =>
  St h11 (a10.add 0) (.int .i64 x5) fun h12 =>
  St h12 (a10.add 1) (.int .i64 x6) fun h13 =>
  St h13 (a10.add 2) (.int .i64 x7) fun h14 =>
  St h14 (a10.add 3) (.int .u64 x8) fun h15 =>
  St h15 (a10.add 4) (.slice x9.a x9.len x9.cap) fun h16 =>
  Ld .s h16 ((a10.add 4).add 0) fun x17 =>
  Br (decide (((x17.len : Nat) : Int) > 5000))
  (Q false h16)
  (Ld .s h16 ((a10.add 4).add 0) fun x18 =>
  LetI (IntKind.wrap .i64 (z2.1 + ((x18.len : Nat) : Int))) fun n19 =>
  self1 (n19, (IntKind.wrap .i64 (z2.2.1 + 1)), ()) h16))
  (Q (decide (z2.1 ≤ 30000)) h3)) (0, 0, ()) h)
noncomputable def F80 := Seal @B80
theorem F80_eq : @F80 = @B80 := Seal_eq _
noncomputable def E80 : Ent Try.prog := mkEnt tabOk 80 Try.f80 (Try.f80.body.getD .skip) Try.func80 (by kernel_rfl)
  []
  ⟨[], [(5, [(3, .one (.i .i64)), (11, .one (.i .i64))])], []⟩
  [.one .s] (by kernel_rfl)
  (fun x K h => F80 x.1 (fun r1 h' => K (.bool r1) h') h)
  (fun x K h => B80 x.1 (fun r1 h' => K (.bool r1) h') h)
  (by rw [F80_eq]) (fun x K h => by kernel_rfl)

/-- pantry/pantrylaw01.act -/
def B81 (p0 : Option Addr) (p1 : Int) (p2 : Int) (p3 : Int) (p4 : Int) (p5 : Sl) (Q : Bool → H → Prop) (h : H) : Prop :=
  Nw h #[(.int .i64 p1), (.int .i64 p2), (.int .i64 p3), (.int .u64 p4), (.slice p5.a p5.len p5.cap)] 77 fun a1 h2 =>
  Ld (.i .i64) h2 ((a1.add 0).add 0) fun x3 =>
  Br (x3 == 0)
  (Ld (.i .i64) h2 ((a1.add 1).add 0) fun x4 =>
  Ld (.i .i64) h2 ((a1.add 2).add 0) fun x5 =>
  Ld (.i .u64) h2 ((a1.add 3).add 0) fun x6 =>
  F74 p0 x4 x5 (IntKind.wrap .u8 x6) (fun r7 h8 =>
  Q r7 h8) h2)
  (Br (x3 == 1)
  (Ld (.i .i64) h2 ((a1.add 1).add 0) fun x9 =>
  Ld (.i .i64) h2 ((a1.add 2).add 0) fun x10 =>
  Ld (.i .u64) h2 ((a1.add 3).add 0) fun x11 =>
  F82 p0 x9 x10 x11 (fun r12 h13 =>
  Q r12 h13) h2)
  (Br (x3 == 2)
  (Ld (.i .i64) h2 ((a1.add 1).add 0) fun x14 =>
  F87 p0 x14 (fun r15 h16 =>
  Q r15 h16) h2)
  (Br (x3 == 3)
  (Ld (.i .i64) h2 ((a1.add 1).add 0) fun x17 =>
  Ld (.i .i64) h2 ((a1.add 2).add 0) fun x18 =>
  F85 p0 x17 x18 (fun r19 h20 =>
  Q r19 h20) h2)
  (Br (x3 == 4)
  (Ld (.i .i64) h2 ((a1.add 1).add 0) fun x21 =>
  Ld .s h2 ((a1.add 4).add 0) fun x22 =>
  F63 p0 x21 x22 (fun r23 h24 =>
  Q r23 h24) h2)
  (Q false h2)))))
noncomputable def F81 := Seal @B81
theorem F81_eq : @F81 = @B81 := Seal_eq _
noncomputable def E81 : Ent Try.prog := mkEnt tabOk 81 Try.f81 (Try.f81.body.getD .skip) Try.func81 (by kernel_rfl)
  [E74, E82, E87, E85, E63]
  ⟨[], [], []⟩
  [.one .p, .agg [(.i .i64), (.i .i64), (.i .i64), (.i .u64), .s]] (by kernel_rfl)
  (fun x K h => F81 x.1 x.2.1.1 x.2.1.2.1 x.2.1.2.2.1 x.2.1.2.2.2.1 x.2.1.2.2.2.2.1 (fun r1 h' => K (.bool r1) h') h)
  (fun x K h => B81 x.1 x.2.1.1 x.2.1.2.1 x.2.1.2.2.1 x.2.1.2.2.2.1 x.2.1.2.2.2.2.1 (fun r1 h' => K (.bool r1) h') h)
  (by rw [F81_eq]) (fun x K h => by kernel_rfl)

/-- pantry/pantrylaw01.PhysApart -/
def B16 (p0 : Int) (p1 : Int) (p2 : Int) (p3 : Int) (p4 : Sl) (p5 : Sl) (p6 : Int) (Q : Bool → H → Prop) (h : H) : Prop :=
  Nw h #[(.int .i64 p0), (.int .i64 p1), (.int .i64 p2), (.int .u64 p3), (.slice p4.a p4.len p4.cap)] 77 fun a1 h2 =>
  F61 4 (fun r3 h4 =>
  JoinM (σ := Unit) (fun J5 =>
  Br (Option.isNone r3)
  (Br (!(Option.isNone r3))
  (F62  (fun r8 h9 =>
  Q r8 h9) h4)
  (Q false h4))
  (Br (decide (((p5.len : Nat) : Int) > 5000))
  (Br (!(Option.isNone r3))
  (F62  (fun r10 h11 =>
  Q r10 h11) h4)
  (Q false h4))
  (Ld (.i .i64) h4 (a1.add 0) fun x12 =>
  Ld (.i .i64) h4 (a1.add 1) fun x13 =>
  Ld (.i .i64) h4 (a1.add 2) fun x14 =>
  Ld (.i .u64) h4 (a1.add 3) fun x15 =>
  Ld .s h4 (a1.add 4) fun x16 =>
  Nw h4 #[(.int .i64 x12), (.int .i64 x13), (.int .i64 x14), (.int .u64 x15), (.slice x16.a x16.len x16.cap)] 77 fun a17 h18 =>
  F80 ⟨(some a17), 1, 1⟩ (fun r19 h20 =>
  Br (!r19)
  (Br (!(Option.isNone r3))
  (F62  (fun r21 h22 =>
  Q r21 h22) h20)
  (Q false h20))
  (J5 (()) h20)) h18)))
  (fun y6 h7 =>
  LoopM (σ := Int × Unit) (fun self23 z24 h25 =>
  Br (decide (z24.1 < 4))
  (F63 r3 z24.1 p5 (fun r26 h27 =>
  F74 r3 z24.1 (IntKind.wrap .i64 (17 * z24.1)) p6 (fun r28 h29 =>
  LetI (IntKind.wrap .i64 (z24.1 + 1)) fun n30 =>
  self23 (n30, ()) h29) h27) h25)
  (Nw h25 (zeroC Try.prog 80) 80 fun a31 h32 =>
  LoopM (σ := Int × Unit) (fun self33 z34 h35 =>
  Br (decide (z34.1 < 4))
  (LetI z34.1 fun n36 =>
  F64 r3 n36 (fun r37 h38 =>
  IdxA 4 n36
  (St h38 ((a31.add (Int.toNat n36 * 1)).add 0) (.slice r37.a r37.len r37.cap) fun h39 =>
  self33 ((IntKind.wrap .i64 (z34.1 + 1)), ()) h39)) h35)
  (Ld (.i .i64) h35 (a1.add 0) fun x40 =>
  Ld (.i .i64) h35 (a1.add 1) fun x41 =>
  Ld (.i .i64) h35 (a1.add 2) fun x42 =>
  Ld (.i .u64) h35 (a1.add 3) fun x43 =>
  Ld .s h35 (a1.add 4) fun x44 =>
  F81 r3 x40 x41 x42 x43 x44 (fun r45 h46 =>
  LoopM (σ := Int × Unit) (fun self47 z48 h49 =>
  Br (decide (z48.1 < 4))
  (LetI z48.1 fun n50 =>
  Ld (.i .i64) h49 ((a1.add 1).add 0) fun x51 =>
  Br (n50 != x51)
  (IdxA 4 n50
  (Ld .s h49 ((a31.add (Int.toNat n50 * 1)).add 0) fun x52 =>
  F64 r3 n50 (fun r53 h54 =>
  (hcell h54 ((a31.add (Int.toNat n50 * 1)).add 0) = some (.slice x52.a x52.len x52.cap)) ∧
  QC [.one .b] h54 (fun K' h' => F65 r53 x52 (fun r56 h'' => K' (.bool r56) h'') h') fun x55 =>
  Br (!x55.1)
  (Q false h54)
  (self47 ((IntKind.wrap .i64 (z48.1 + 1)), ()) h54)) h49))
  (self47 ((IntKind.wrap .i64 (z48.1 + 1)), ()) h49))
  (F62  (fun r57 h58 =>
  Q r57 h58) h49)) (0, ()) h46) h35)) (0, ()) h32)) (0, ()) h7)) h2
noncomputable def F16 := Seal @B16
theorem F16_eq : @F16 = @B16 := Seal_eq _
noncomputable def E16 : Ent Try.prog := mkEnt tabOk 16 Try.f16 (Try.f16.body.getD .skip) Try.func16 (by kernel_rfl)
  [E61, E62, E80, E63, E74, E64, E81, E65]
  ⟨[(4, [])], [(5, [(8, .one (.i .i64))]), (11, [(45, .one (.i .i64))]), (17, [(57, .one (.i .i64))])], [(19, (.q 0 (.q 1 (.q 2 (.q 3 (.q 4 (.q 5 (.q 6 (.q 8 (.q 9 (.q 10 (.m1 7 (.qc 11 [.one .b] (.q 12 (.q 13 .done)))))))))))))))]⟩
  [.agg [(.i .i64), (.i .i64), (.i .i64), (.i .u64), .s], .one .s, .one (.i .u8)] (by kernel_rfl)
  (fun x K h => F16 x.1.1 x.1.2.1 x.1.2.2.1 x.1.2.2.2.1 x.1.2.2.2.2.1 x.2.1 x.2.2.1 (fun r1 h' => K (.bool r1) h') h)
  (fun x K h => B16 x.1.1 x.1.2.1 x.1.2.2.1 x.1.2.2.2.1 x.1.2.2.2.2.1 x.2.1 x.2.2.1 (fun r1 h' => K (.bool r1) h') h)
  (by rw [F16_eq]) (fun x K h => by kernel_rfl)

/-- pantry/pantrylaw01.PhysWords -/
def B17 (p0 : Int) (p1 : Int) (Q : Bool → H → Prop) (h : H) : Prop :=
  F61 2 (fun r1 h2 =>
  Br (Option.isNone r1)
  (Q false h2)
  (Asr ((512 : Int) ≠ 0)
  (LetI (IntKind.wrap .i64 (Int.tmod p0 512)) fun n3 =>
  F82 r1 0 n3 p1 (fun r4 h5 =>
  Br (!r4)
  (Q false h5)
  (F83 r1 0 n3 (fun r6 r7 h8 =>
  LetI r6 fun n9 =>
  LoopM (σ := Int × Int × Unit) (fun self10 z11 h12 =>
  Br (decide (z11.2.1 ≥ 0))
  (F84 r1 0 (IntKind.wrap .i64 ((IntKind.wrap .i64 (8 * n3)) + z11.2.1)) (fun r13 r14 h15 =>
  LetI r13 fun n16 =>
  Asr ((0 : Int) ≤ 8)
  (LetI (IntKind.wrap .u64 ((shL .u64 z11.1 8) + (IntKind.wrap .u64 n16))) fun n17 =>
  LetI (IntKind.wrap .i64 (z11.2.1 - 1)) fun n18 =>
  self10 (n17, n18, ()) h15)) h12)
  (JoinM (σ := Unit) (fun J19 =>
  Br (!r7)
  (Q false h12)
  (Br (n9 != p1)
  (Q false h12)
  (Br (z11.1 != p1)
  (Q false h12)
  (F85 r1 1 0 (fun r22 h23 =>
  Br (!r22)
  (Q false h23)
  (F86 r1 0 1 (fun r24 h25 =>
  Br (!r24)
  (Q false h25)
  (J19 (()) h25)) h23)) h12))))
  (fun y20 h21 =>
  F84 r1 1 (IntKind.wrap .i64 (8 * n3)) (fun r26 r27 h28 =>
  LetI r26 fun n29 =>
  F74 r1 1 (IntKind.wrap .i64 (8 * n3)) (IntKind.wrap .u8 (n29 + 1)) (fun r30 h31 =>
  Br r30
  (F86 r1 0 1 (fun r32 h33 =>
  Br (!r32)
  (F87 r1 1 (fun r34 h35 =>
  Br r34
  (F87 r1 0 (fun r36 h37 =>
  Br r36
  (F86 r1 1 0 (fun r38 h39 =>
  Br r38
  (F62  (fun r40 h41 =>
  Q r40 h41) h39)
  (Q false h39)) h37)
  (Q false h37)) h35)
  (Q false h35)) h33)
  (Q false h33)) h31)
  (Q false h31)) h28) h21))) (0, 7, ()) h8) h5)) h2))) h
noncomputable def F17 := Seal @B17
theorem F17_eq : @F17 = @B17 := Seal_eq _
noncomputable def E17 : Ent Try.prog := mkEnt tabOk 17 Try.f17 (Try.f17.body.getD .skip) Try.func17 (by kernel_rfl)
  [E61, E82, E83, E84, E85, E86, E74, E87, E62]
  ⟨[(16, [])], [(10, [(9, .one (.i .u64)), (10, .one (.i .i64))])], []⟩
  [.one (.i .u64), .one (.i .u64)] (by kernel_rfl)
  (fun x K h => F17 x.1 x.2.1 (fun r1 h' => K (.bool r1) h') h)
  (fun x K h => B17 x.1 x.2.1 (fun r1 h' => K (.bool r1) h') h)
  (by rw [F17_eq]) (fun x K h => by kernel_rfl)

/-- pantry/pantrylaw01.like -/
def B89 (p0 : Option Addr) (p1 : Int) (p2 : Int) (p3 : Int) (p4 : Int) (p5 : Sl) (Q : Bool → H → Prop) (h : H) : Prop :=
  Nw h #[(.int .i64 p1), (.int .i64 p2), (.int .i64 p3), (.int .u64 p4), (.slice p5.a p5.len p5.cap)] 77 fun a1 h2 =>
  Ld (.i .i64) h2 ((a1.add 0).add 0) fun x3 =>
  Br (x3 == 0)
  (Ld (.i .i64) h2 ((a1.add 1).add 0) fun x4 =>
  Ld (.i .i64) h2 ((a1.add 2).add 0) fun x5 =>
  Ld (.i .u64) h2 ((a1.add 3).add 0) fun x6 =>
  F165 p0 x4 x5 (IntKind.wrap .u8 x6) (fun r7 h8 =>
  Q r7 h8) h2)
  (Br (x3 == 1)
  (Ld (.i .i64) h2 ((a1.add 1).add 0) fun x9 =>
  Ld (.i .i64) h2 ((a1.add 2).add 0) fun x10 =>
  Ld (.i .u64) h2 ((a1.add 3).add 0) fun x11 =>
  F166 p0 x9 x10 x11 (fun r12 h13 =>
  Q r12 h13) h2)
  (Br (x3 == 2)
  (Ld (.i .i64) h2 ((a1.add 1).add 0) fun x14 =>
  F167 p0 x14 (fun r15 h16 =>
  Q r15 h16) h2)
  (Br (x3 == 3)
  (Ld (.i .i64) h2 ((a1.add 1).add 0) fun x17 =>
  Ld (.i .i64) h2 ((a1.add 2).add 0) fun x18 =>
  F168 p0 x17 x18 (fun r19 h20 =>
  Q r19 h20) h2)
  (Br (x3 == 4)
  (Ld (.i .i64) h2 ((a1.add 1).add 0) fun x21 =>
  Ld .s h2 ((a1.add 4).add 0) fun x22 =>
  F169 p0 x21 x22 (fun r23 h24 =>
  Q r23 h24) h2)
  (Q false h2)))))
noncomputable def F89 := Seal @B89
theorem F89_eq : @F89 = @B89 := Seal_eq _
noncomputable def E89 : Ent Try.prog := mkEnt tabOk 89 Try.f89 (Try.f89.body.getD .skip) Try.func89 (by kernel_rfl)
  [E165, E166, E167, E168, E169]
  ⟨[], [], []⟩
  [.one .p, .agg [(.i .i64), (.i .i64), (.i .i64), (.i .u64), .s]] (by kernel_rfl)
  (fun x K h => F89 x.1 x.2.1.1 x.2.1.2.1 x.2.1.2.2.1 x.2.1.2.2.2.1 x.2.1.2.2.2.2.1 (fun r1 h' => K (.bool r1) h') h)
  (fun x K h => B89 x.1 x.2.1.1 x.2.1.2.1 x.2.1.2.2.1 x.2.1.2.2.2.1 x.2.1.2.2.2.2.1 (fun r1 h' => K (.bool r1) h') h)
  (by rw [F89_eq]) (fun x K h => by kernel_rfl)

/-- pantry/pantrylaw01.PhysActs -/
def B18 (p0 : Int) (p1 : Sl) (p2 : Int) (p3 : Int) (Q : Bool → H → Prop) (h : H) : Prop :=
  Nw h #[(.int .i64 p2), (.int .i64 p3)] 90 fun a1 h2 =>
  F80 p1 (fun r3 h4 =>
  Br (!r3)
  (F62  (fun r5 h6 =>
  Q r5 h6) h4)
  (F61 p0 (fun r7 h8 =>
  F88 p0 (fun r9 h10 =>
  Br (!((Option.isNone r7) == (Option.isNone r9)))
  (Q false h10)
  (Br (Option.isNone r9)
  (F62  (fun r11 h12 =>
  Q r11 h12) h10)
  (LoopM (σ := Int × Unit) (fun self13 z14 h15 =>
  Br (decide (z14.1 < ((p1.len : Nat) : Int)))
  (IdxS p1.a p1.len z14.1 fun a16 =>
  Ld (.i .i64) h15 ((a16.add (Int.toNat z14.1 * 5)).add 0) fun x17 =>
  Ld (.i .i64) h15 ((a16.add (Int.toNat z14.1 * 5)).add 1) fun x18 =>
  Ld (.i .i64) h15 ((a16.add (Int.toNat z14.1 * 5)).add 2) fun x19 =>
  Ld (.i .u64) h15 ((a16.add (Int.toNat z14.1 * 5)).add 3) fun x20 =>
  Ld .s h15 ((a16.add (Int.toNat z14.1 * 5)).add 4) fun x21 =>
  Nw h15 (zeroC Try.prog 77) 77 fun a22 h23 =>
  St h23 (a22.add 0) (.int .i64 x17) fun h24 =>
  St h24 (a22.add 1) (.int .i64 x18) fun h25 =>
  St h25 (a22.add 2) (.int .i64 x19) fun h26 =>
  St h26 (a22.add 3) (.int .u64 x20) fun h27 =>
  St h27 (a22.add 4) (.slice x21.a x21.len x21.cap) fun h28 =>
  Ld (.i .i64) h28 (a22.add 0) fun x29 =>
  Ld (.i .i64) h28 (a22.add 1) fun x30 =>
  Ld (.i .i64) h28 (a22.add 2) fun x31 =>
  Ld (.i .u64) h28 (a22.add 3) fun x32 =>
  Ld .s h28 (a22.add 4) fun x33 =>
  Ld (.i .i64) h28 (a22.add 0) fun x34 =>
  Ld (.i .i64) h28 (a22.add 1) fun x35 =>
  Ld (.i .i64) h28 (a22.add 2) fun x36 =>
  Ld (.i .u64) h28 (a22.add 3) fun x37 =>
  Ld .s h28 (a22.add 4) fun x38 =>
  F81 r7 x29 x30 x31 x32 x33 (fun r39 h40 =>
  (hcell h40 (a22.add 0) = some (.int .i64 x34) ∧ hcell h40 (a22.add 1) = some (.int .i64 x35) ∧ hcell h40 (a22.add 2) = some (.int .i64 x36) ∧ hcell h40 (a22.add 3) = some (.int .u64 x37) ∧ hcell h40 (a22.add 4) = some (.slice x38.a x38.len x38.cap) ∧ True) ∧
  F89 r9 x34 x35 x36 x37 x38 (fun r41 h42 =>
  Br (!(r39 == r41))
  (Q false h42)
  (IdxA 2 0
  (Ld (.i .i64) h42 ((a1.add (Int.toNat 0 * 1)).add 0) fun x43 =>
  IdxA 2 1
  (Ld (.i .i64) h42 ((a1.add (Int.toNat 1 * 1)).add 0) fun x44 =>
  F84 r7 x43 x44 (fun r45 r46 h47 =>
  LetI r45 fun n48 =>
  IdxA 2 0
  (Ld (.i .i64) h47 ((a1.add (Int.toNat 0 * 1)).add 0) fun x49 =>
  IdxA 2 1
  (Ld (.i .i64) h47 ((a1.add (Int.toNat 1 * 1)).add 0) fun x50 =>
  F90 r9 x49 x50 (fun r51 r52 h53 =>
  LetI r51 fun n54 =>
  IdxA 2 0
  (Ld (.i .i64) h53 ((a1.add (Int.toNat 0 * 1)).add 0) fun x55 =>
  IdxA 2 1
  (Ld (.i .i64) h53 ((a1.add (Int.toNat 1 * 1)).add 0) fun x56 =>
  F83 r7 x55 x56 (fun r57 r58 h59 =>
  LetI r57 fun n60 =>
  IdxA 2 0
  (Ld (.i .i64) h59 ((a1.add (Int.toNat 0 * 1)).add 0) fun x61 =>
  IdxA 2 1
  (Ld (.i .i64) h59 ((a1.add (Int.toNat 1 * 1)).add 0) fun x62 =>
  F91 r9 x61 x62 (fun r63 r64 h65 =>
  LetI r63 fun n66 =>
  Br (n48 != n54)
  (Q false h65)
  (Br (!(r46 == r52))
  (Q false h65)
  (Br (n60 != n66)
  (Q false h65)
  (Br (!(r58 == r64))
  (Q false h65)
  (Ld (.i .i64) h65 ((a22.add 1).add 0) fun x67 =>
  Ld (.i .i64) h65 ((a22.add 2).add 0) fun x68 =>
  QC [.one .b] h65 (fun K' h' => F86 r7 x67 x68 (fun r70 h'' => K' (.bool r70) h'') h') fun x69 =>
  Ld (.i .i64) h65 ((a22.add 1).add 0) fun x71 =>
  Ld (.i .i64) h65 ((a22.add 2).add 0) fun x72 =>
  QC [.one .b] h65 (fun K' h' => F92 r9 x71 x72 (fun r74 h'' => K' (.bool r74) h'') h') fun x73 =>
  Br (!(x69.1 == x73.1))
  (Q false h65)
  (self13 ((IntKind.wrap .i64 (z14.1 + 1)), ()) h65)))))) h59))) h53))) h47))) h42)))) h40) h28)
  (NilP r9 fun a75 =>
  Ld .s h15 ((a75.add 0).add 0) fun x76 =>
  LoopM (σ := Int × Unit) (fun self77 z78 h79 =>
  Br (decide (z78.1 < ((x76.len : Nat) : Int)))
  (LetI z78.1 fun n80 =>
  NilP r9 fun a81 =>
  Ld .s h79 ((a81.add 0).add 0) fun x82 =>
  IdxS x82.a x82.len n80 fun a83 =>
  Ld .s h79 ((a83.add (Int.toNat n80 * 1)).add 0) fun x84 =>
  F64 r7 n80 (fun r85 h86 =>
  (hcell h86 ((a83.add (Int.toNat n80 * 1)).add 0) = some (.slice x84.a x84.len x84.cap)) ∧
  (hcell h86 ((a81.add 0).add 0) = some (.slice x82.a x82.len x82.cap)) ∧
  QC [.one .b] h86 (fun K' h' => F65 r85 x84 (fun r88 h'' => K' (.bool r88) h'') h') fun x87 =>
  Br (!x87.1)
  (Q false h86)
  (self77 ((IntKind.wrap .i64 (z78.1 + 1)), ()) h86)) h79)
  (QC [.one (.i .i64)] h79 (fun K' h' => F93 r7 (fun r90 h'' => K' (.int .i64 r90) h'') h') fun x89 =>
  NilP r9 fun a91 =>
  Ld .s h79 ((a91.add 0).add 0) fun x92 =>
  Br (x89.1 == ((x92.len : Nat) : Int))
  (IdxA 2 0
  (Ld (.i .i64) h79 ((a1.add (Int.toNat 0 * 1)).add 0) fun x93 =>
  IdxA 2 0
  (Ld (.i .i64) h79 ((a1.add (Int.toNat 0 * 1)).add 0) fun x94 =>
  F64 r7 x93 (fun r95 h96 =>
  (hcell h96 ((a1.add (Int.toNat 0 * 1)).add 0) = some (.int .i64 x94)) ∧
  F94 r9 x94 (fun r97 h98 =>
  Br (((r95.len : Nat) : Int) == ((r97.len : Nat) : Int))
  (F62  (fun r99 h100 =>
  Q r99 h100) h98)
  (Q false h98)) h96) h79)))
  (Q false h79))) (0, ()) h15)) (0, ()) h10))) h8) h4)) h2
noncomputable def F18 := Seal @B18
theorem F18_eq : @F18 = @B18 := Seal_eq _
noncomputable def E18 : Ent Try.prog := mkEnt tabOk 18 Try.f18 (Try.f18.body.getD .skip) Try.func18 (by kernel_rfl)
  [E80, E62, E61, E88, E81, E89, E84, E90, E83, E91, E86, E92, E64, E65, E93, E94]
  ⟨[], [(9, [(38, .one (.i .i64))]), (21, [(124, .one (.i .i64))])], [(11, (.q 0 (.q 1 (.q 3 (.q 4 (.m1 2 (.m1 5 (.q 6 .done)))))))), (17, (.q 0 (.q 1 (.q 2 (.q 3 (.q 4 (.q 5 (.q 6 (.q 7 (.q 8 (.q 9 (.q 10 (.q 11 (.q 12 (.q 13 (.q 14 (.q 15 (.q 16 (.q 17 (.q 18 (.q 19 (.q 20 (.q 21 (.q 22 (.q 23 (.qc 24 [.one .b] (.q 25 (.q 26 (.q 27 (.q 28 (.q 29 (.qc 30 [.one .b] (.q 31 (.q 32 .done)))))))))))))))))))))))))))))))))), (23, (.q 0 (.q 1 (.q 3 (.q 4 (.q 5 (.q 6 (.q 7 (.q 8 (.q 9 (.m1 2 (.qc 10 [.one .b] (.q 11 .done))))))))))))), (26, (.q 0 (.qc 1 [.one (.i .i64)] (.q 2 (.q 3 (.q 4 (.q 5 (.q 6 (.q 7 (.q 8 (.q 9 (.q 10 (.q 11 (.q 14 (.q 15 (.q 16 (.m1 12 (.q 13 (.m1 17 (.q 18 (.q 19 (.q 20 (.q 21 (.m1 22 (.q 23 (.q 24 .done))))))))))))))))))))))))))]⟩
  [.one (.i .i64), .one .s, .agg [(.i .i64), (.i .i64)]] (by kernel_rfl)
  (fun x K h => F18 x.1 x.2.1 x.2.2.1.1 x.2.2.1.2.1 (fun r1 h' => K (.bool r1) h') h)
  (fun x K h => B18 x.1 x.2.1 x.2.2.1.1 x.2.2.1.2.1 (fun r1 h' => K (.bool r1) h') h)
  (by rw [F18_eq]) (fun x K h => by kernel_rfl)

/-- pantry/pantrylaw01.PhysNone -/
def B19 (p0 : Int) (p1 : Int) (p2 : Int) (p3 : Int) (p4 : Sl) (Q : Bool → H → Prop) (h : H) : Prop :=
  Nw h #[(.int .i64 p0), (.int .i64 p1), (.int .i64 p2), (.int .u64 p3), (.slice p4.a p4.len p4.cap)] 77 fun a1 h2 =>
  Nw h2 (zeroC Try.prog 101) 101 fun a3 h4 =>
  LoopM (σ := Int × Unit) (fun self5 z6 h7 =>
  Br (decide (z6.1 < 2))
  (IdxA 2 z6.1
  (LoopM (σ := Int × Unit) (fun self8 z9 h10 =>
  Br (decide (z9.1 < 5))
  (St h10 ((a1.add 0).add 0) (.int .i64 z9.1) fun h11 =>
  Ld (.i .i64) h11 (a1.add 0) fun x12 =>
  Ld (.i .i64) h11 (a1.add 1) fun x13 =>
  Ld (.i .i64) h11 (a1.add 2) fun x14 =>
  Ld (.i .u64) h11 (a1.add 3) fun x15 =>
  Ld .s h11 (a1.add 4) fun x16 =>
  F81 (List.getD [none, (some a3)] (Int.toNat z6.1) none) x12 x13 x14 x15 x16 (fun r17 h18 =>
  Br r17
  (Q false h18)
  (LetI (IntKind.wrap .i64 (z9.1 + 1)) fun n19 =>
  self8 (n19, ()) h18)) h11)
  (Ld (.i .i64) h10 ((a1.add 1).add 0) fun x20 =>
  Ld (.i .i64) h10 ((a1.add 2).add 0) fun x21 =>
  F84 (List.getD [none, (some a3)] (Int.toNat z6.1) none) x20 x21 (fun r22 r23 h24 =>
  LetI r22 fun n25 =>
  Ld (.i .i64) h24 ((a1.add 1).add 0) fun x26 =>
  Ld (.i .i64) h24 ((a1.add 2).add 0) fun x27 =>
  F83 (List.getD [none, (some a3)] (Int.toNat z6.1) none) x26 x27 (fun r28 r29 h30 =>
  LetI r28 fun n31 =>
  Br r23
  (Q false h30)
  (Br r29
  (Q false h30)
  (F93 (List.getD [none, (some a3)] (Int.toNat z6.1) none) (fun r32 h33 =>
  Br (r32 != 0)
  (Q false h33)
  (Ld (.i .i64) h33 ((a1.add 1).add 0) fun x34 =>
  F64 (List.getD [none, (some a3)] (Int.toNat z6.1) none) x34 (fun r35 h36 =>
  Br (((r35.len : Nat) : Int) != 0)
  (Q false h36)
  (Ld (.i .i64) h36 ((a1.add 1).add 0) fun x37 =>
  Ld (.i .i64) h36 ((a1.add 1).add 0) fun x38 =>
  F86 (List.getD [none, (some a3)] (Int.toNat z6.1) none) x37 x38 (fun r39 h40 =>
  Br r39
  (Q false h40)
  (self5 ((IntKind.wrap .i64 (z6.1 + 1)), ()) h40)) h36)) h33)) h30))) h24) h10)) (0, ()) h7))
  (F62  (fun r41 h42 =>
  Q r41 h42) h7)) (0, ()) h4
noncomputable def F19 := Seal @B19
theorem F19_eq : @F19 = @B19 := Seal_eq _
noncomputable def E19 : Ent Try.prog := mkEnt tabOk 19 Try.f19 (Try.f19.body.getD .skip) Try.func19 (by kernel_rfl)
  [E81, E84, E83, E93, E64, E86, E62]
  ⟨[], [(3, [(12, .one (.i .i64))]), (6, [(6, .one (.i .i64))])], []⟩
  [.agg [(.i .i64), (.i .i64), (.i .i64), (.i .u64), .s]] (by kernel_rfl)
  (fun x K h => F19 x.1.1 x.1.2.1 x.1.2.2.1 x.1.2.2.2.1 x.1.2.2.2.2.1 (fun r1 h' => K (.bool r1) h') h)
  (fun x K h => B19 x.1.1 x.1.2.1 x.1.2.2.1 x.1.2.2.2.1 x.1.2.2.2.2.1 (fun r1 h' => K (.bool r1) h') h)
  (by rw [F19_eq]) (fun x K h => by kernel_rfl)

end Go.Proofs.Ytfijchofplkcoaa
