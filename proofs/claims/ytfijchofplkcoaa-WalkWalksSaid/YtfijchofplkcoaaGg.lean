/-
  PRINTED BY wip/tools/emit.py: what each Go function comes to, as a predicate over the heap (the kernel holds each against the translated program).
-/
import Derived.Test.YtfijchofplkcoaaGf
set_option linter.unusedVariables false
set_option maxRecDepth 100000
namespace Go.Proofs.Ytfijchofplkcoaa

/-- pantry/pantrylaw08.lives -/
def B67 (Q : Bool → H → Prop) (h : H) : Prop :=
  F66 4 (fun r1 h2 =>
  Br (Option.isNone r1)
  (Q false h2)
  (F68 r1 (fun r3 r4 h5 =>
  LetI r3 fun n6 =>
  F69 r1 2 (fun r7 r8 h9 =>
  LetI r7 fun n10 =>
  F70 r1 1 (fun r11 h12 =>
  F69 r1 2 (fun r13 r14 h15 =>
  LetI r13 fun n16 =>
  F68 r1 (fun r17 r18 h19 =>
  LetI r17 fun n20 =>
  Br (n6 == 0)
  (Br (n10 == 1)
  (Br r11
  (Br (!r14)
  (Br (n20 == 1)
  (Br r18
  (F72 r1 (fun r21 h22 =>
  Nw h22 #[(.int .u64 7)] 23 fun a23 h24 =>
  F113 r21 ⟨(some a23), 1, 1⟩ (fun r25 h26 =>
  Q r25 h26) h24) h19)
  (Q false h19))
  (Q false h19))
  (Q false h19))
  (Q false h19))
  (Q false h19))
  (Q false h19)) h15) h12) h9) h5) h2)) h
noncomputable def F67 := Seal @B67
theorem F67_eq : @F67 = @B67 := Seal_eq _
noncomputable def E67 : Ent Try.prog := mkEnt tabOk 67 Try.f67 (Try.f67.body.getD .skip) Try.func67 (by kernel_rfl)
  [E66, E68, E69, E70, E72, E113]
  ⟨[], [], []⟩
  [] (by kernel_rfl)
  (fun x K h => F67  (fun r1 h' => K (.bool r1) h') h)
  (fun x K h => B67  (fun r1 h' => K (.bool r1) h') h)
  (by rw [F67_eq]) (fun x K h => by kernel_rfl)

/-- pantry/pantrylaw08.SlotsWords -/
def B13 (p0 : Int) (p1 : Sl) (Q : Bool → H → Prop) (h : H) : Prop :=
  Asr ((257 : Int) ≠ 0)
  (LetI (IntKind.wrap .i64 (Int.tmod p0 257)) fun n1 =>
  F66 n1 (fun r2 h3 =>
  JoinM (σ := Unit) (fun J4 =>
  Br (Option.isNone r2)
  (Br (!(Option.isNone r2))
  (F67  (fun r7 h8 =>
  Q r7 h8) h3)
  (Q false h3))
  (Br (decide (((p1.len : Nat) : Int) > 100))
  (Br (!(Option.isNone r2))
  (F67  (fun r9 h10 =>
  Q r9 h10) h3)
  (Q false h3))
  (J4 (()) h3)))
  (fun y5 h6 =>
  LoopM (σ := Int × Unit) (fun self11 z12 h13 =>
  Br (decide (z12.1 < ((p1.len : Nat) : Int)))
  (IdxS p1.a p1.len z12.1 fun a14 =>
  Ld (.i .i64) h13 ((a14.add (Int.toNat z12.1 * 2)).add 0) fun x15 =>
  Ld (.i .i64) h13 ((a14.add (Int.toNat z12.1 * 2)).add 1) fun x16 =>
  Nw h13 (zeroC Try.prog 55) 55 fun a17 h18 =>
  St h18 (a17.add 0) (.int .i64 x15) fun h19 =>
  St h19 (a17.add 1) (.int .i64 x16) fun h20 =>
  Ld (.i .i64) h20 ((a17.add 0).add 0) fun x21 =>
  Br (x21 == 0)
  (F68 r2 (fun r22 r23 h24 =>
  self11 ((IntKind.wrap .i64 (z12.1 + 1)), ()) h24) h20)
  (Br (x21 == 1)
  (Ld (.i .i64) h20 ((a17.add 1).add 0) fun x25 =>
  F69 r2 x25 (fun r26 r27 h28 =>
  self11 ((IntKind.wrap .i64 (z12.1 + 1)), ()) h28) h20)
  (Br (x21 == 2)
  (Ld (.i .i64) h20 ((a17.add 1).add 0) fun x29 =>
  F70 r2 x29 (fun r30 h31 =>
  self11 ((IntKind.wrap .i64 (z12.1 + 1)), ()) h31) h20)
  (Br (x21 == 3)
  (Ld (.i .i64) h20 ((a17.add 1).add 0) fun x32 =>
  F71 r2 x32 (fun r33 h34 =>
  self11 ((IntKind.wrap .i64 (z12.1 + 1)), ()) h34) h20)
  (self11 ((IntKind.wrap .i64 (z12.1 + 1)), ()) h20)))))
  (F72 r2 (fun r35 h36 =>
  Asr ((64 : Int) ≠ 0)
  (Br (((r35.len : Nat) : Int) != (IntKind.wrap .i64 (Int.tdiv (IntKind.wrap .i64 (n1 + 63)) 64)))
  (Q false h36)
  (LoopM (σ := Int × Unit) (fun self37 z38 h39 =>
  Br (decide (z38.1 < (IntKind.wrap .i64 (64 * ((r35.len : Nat) : Int)))))
  (Asr ((64 : Int) ≠ 0)
  (IdxS r35.a r35.len (IntKind.wrap .i64 (Int.tdiv z38.1 64)) fun a40 =>
  Ld (.i .u64) h39 ((a40.add (Int.toNat (IntKind.wrap .i64 (Int.tdiv z38.1 64)) * 1)).add 0) fun x41 =>
  Asr ((64 : Int) ≠ 0)
  (Asr ((0 : Int) ≤ (IntKind.wrap .u64 (Int.tmod z38.1 64)))
  (QC [.one (.i .i64)] h39 (fun K' h' => F73 r2 z38.1 (fun r43 h'' => K' (.int .i64 r43) h'') h') fun x42 =>
  Br (!(((bAnd .u64 (shR .u64 x41 (IntKind.wrap .u64 (Int.tmod z38.1 64))) 1) == 1) == (decide (x42.1 > 0))))
  (Q false h39)
  (LetI (IntKind.wrap .i64 (z38.1 + 1)) fun n44 =>
  self37 (n44, ()) h39)))))
  (F67  (fun r45 h46 =>
  Q r45 h46) h39)) (0, ()) h36))) h13)) (0, ()) h6)) h)
noncomputable def F13 := Seal @B13
theorem F13_eq : @F13 = @B13 := Seal_eq _
noncomputable def E13 : Ent Try.prog := mkEnt tabOk 13 Try.f13 (Try.f13.body.getD .skip) Try.func13 (by kernel_rfl)
  [E66, E67, E68, E69, E70, E71, E72, E73]
  ⟨[(5, [])], [(6, [(30, .one (.i .i64))]), (22, [(10, .one (.i .i64))])], [(24, (.q 0 (.q 1 (.q 2 (.q 3 (.q 4 (.q 5 (.q 6 (.q 7 (.q 8 (.q 9 (.q 10 (.q 11 (.q 12 (.qc 13 [.one (.i .i64)] (.q 14 (.q 15 .done)))))))))))))))))]⟩
  [.one (.i .u64), .one .s] (by kernel_rfl)
  (fun x K h => F13 x.1 x.2.1 (fun r1 h' => K (.bool r1) h') h)
  (fun x K h => B13 x.1 x.2.1 (fun r1 h' => K (.bool r1) h') h)
  (by rw [F13_eq]) (fun x K h => by kernel_rfl)

/-- pantry/pantrylaw08.SlotsActs -/
def B24 (p0 : Int) (p1 : Sl) (Q : Bool → H → Prop) (h : H) : Prop :=
  F66 p0 (fun r1 h2 =>
  F105 p0 (fun r3 h4 =>
  Br (!((Option.isNone r1) == (Option.isNone r3)))
  (Q false h4)
  (JoinM (σ := Unit) (fun J5 =>
  Br (Option.isNone r3)
  (F67  (fun r8 h9 =>
  Q r8 h9) h4)
  (Br (decide (((p1.len : Nat) : Int) > 200))
  (F67  (fun r10 h11 =>
  Q r10 h11) h4)
  (J5 (()) h4)))
  (fun y6 h7 =>
  LoopM (σ := Int × Unit) (fun self12 z13 h14 =>
  Br (decide (z13.1 < ((p1.len : Nat) : Int)))
  (IdxS p1.a p1.len z13.1 fun a15 =>
  Ld (.i .i64) h14 ((a15.add (Int.toNat z13.1 * 2)).add 0) fun x16 =>
  Ld (.i .i64) h14 ((a15.add (Int.toNat z13.1 * 2)).add 1) fun x17 =>
  Nw h14 (zeroC Try.prog 55) 55 fun a18 h19 =>
  St h19 (a18.add 0) (.int .i64 x16) fun h20 =>
  St h20 (a18.add 1) (.int .i64 x17) fun h21 =>
  JoinM (σ := Bool × Unit) (fun J22 =>
  Ld (.i .i64) h21 ((a18.add 0).add 0) fun x25 =>
  Br (x25 == 0)
  (F68 r1 (fun r26 r27 h28 =>
  LetI r26 fun n29 =>
  F106 r3 (fun r30 r31 h32 =>
  LetI r30 fun n33 =>
  Br (n29 == n33)
  (J22 ((r27 == r31), ()) h32)
  (J22 (false, ()) h32)) h28) h21)
  (Br (x25 == 1)
  (Ld (.i .i64) h21 ((a18.add 1).add 0) fun x34 =>
  F69 r1 x34 (fun r35 r36 h37 =>
  LetI r35 fun n38 =>
  Ld (.i .i64) h37 ((a18.add 1).add 0) fun x39 =>
  F107 r3 x39 (fun r40 r41 h42 =>
  LetI r40 fun n43 =>
  Br (n38 == n43)
  (J22 ((r36 == r41), ()) h42)
  (J22 (false, ()) h42)) h37) h21)
  (Br (x25 == 2)
  (Ld (.i .i64) h21 ((a18.add 1).add 0) fun x44 =>
  Ld (.i .i64) h21 ((a18.add 1).add 0) fun x45 =>
  F70 r1 x44 (fun r46 h47 =>
  (hcell h47 ((a18.add 1).add 0) = some (.int .i64 x45)) ∧
  F108 r3 x45 (fun r48 h49 =>
  J22 ((r46 == r48), ()) h49) h47) h21)
  (Br (x25 == 3)
  (Ld (.i .i64) h21 ((a18.add 1).add 0) fun x50 =>
  Ld (.i .i64) h21 ((a18.add 1).add 0) fun x51 =>
  F71 r1 x50 (fun r52 h53 =>
  (hcell h53 ((a18.add 1).add 0) = some (.int .i64 x51)) ∧
  F109 r3 x51 (fun r54 h55 =>
  J22 ((r52 == r54), ()) h55) h53) h21)
  (J22 (true, ()) h21)))))
  (fun y23 h24 =>
  Br (!y23.1)
  (Q false h24)
  (Ld (.i .i64) h24 ((a18.add 1).add 0) fun x56 =>
  QC [.one (.i .i64)] h24 (fun K' h' => F73 r1 x56 (fun r58 h'' => K' (.int .i64 r58) h'') h') fun x57 =>
  Ld (.i .i64) h24 ((a18.add 1).add 0) fun x59 =>
  QC [.one (.i .i64)] h24 (fun K' h' => F110 r3 x59 (fun r61 h'' => K' (.int .i64 r61) h'') h') fun x60 =>
  Br (x57.1 != x60.1)
  (Q false h24)
  (Ld (.i .i64) h24 ((a18.add 1).add 0) fun x62 =>
  QC [.one (.i .i64)] h24 (fun K' h' => F111 r1 x62 (fun r64 h'' => K' (.int .i64 r64) h'') h') fun x63 =>
  Ld (.i .i64) h24 ((a18.add 1).add 0) fun x65 =>
  QC [.one (.i .i64)] h24 (fun K' h' => F112 r3 x65 (fun r67 h'' => K' (.int .i64 r67) h'') h') fun x66 =>
  Br (x63.1 != x66.1)
  (Q false h24)
  (QC [.one (.i .i64)] h24 (fun K' h' => F111 r1 0 (fun r69 h'' => K' (.int .i64 r69) h'') h') fun x68 =>
  QC [.one (.i .i64)] h24 (fun K' h' => F112 r3 0 (fun r71 h'' => K' (.int .i64 r71) h'') h') fun x70 =>
  Br (x68.1 != x70.1)
  (Q false h24)
  (F72 r1 (fun r72 h73 =>
  F114 r3 (fun r74 h75 =>
  QC [.one .b] h75 (fun K' h' => F113 r72 r74 (fun r77 h'' => K' (.bool r77) h'') h') fun x76 =>
  Br (!x76.1)
  (Q false h75)
  (self12 ((IntKind.wrap .i64 (z13.1 + 1)), ()) h75)) h73) h24))))))
  (F67  (fun r78 h79 =>
  Q r78 h79) h14)) (0, ()) h7))) h2) h
noncomputable def F24 := Seal @B24
theorem F24_eq : @F24 = @B24 := Seal_eq _
noncomputable def E24 : Ent Try.prog := mkEnt tabOk 24 Try.f24 (Try.f24.body.getD .skip) Try.func24 (by kernel_rfl)
  [E66, E105, E67, E68, E106, E69, E107, E70, E108, E71, E109, E73, E110, E111, E112, E72, E114, E113]
  ⟨[(6, []), (23, [(9, .one .b)])], [(7, [(37, .one (.i .i64))])], [(20, (.q 0 (.q 1 (.q 2 (.q 4 (.q 5 (.q 6 (.m1 3 (.m1 7 (.q 8 (.q 9 .done))))))))))), (22, (.q 0 (.q 1 (.q 2 (.q 4 (.q 5 (.q 6 (.m1 3 (.m1 7 (.q 8 (.q 9 .done))))))))))), (23, (.q 0 (.q 1 (.q 2 (.q 3 (.q 4 (.q 5 (.qc 6 [.one (.i .i64)] (.q 7 (.q 8 (.q 9 (.qc 10 [.one (.i .i64)] (.q 11 (.q 12 (.q 13 (.q 14 (.q 15 (.q 16 (.qc 17 [.one (.i .i64)] (.q 18 (.q 19 (.q 20 (.qc 21 [.one (.i .i64)] (.q 22 (.q 23 (.q 24 (.q 25 (.qc 26 [.one (.i .i64)] (.q 27 (.qc 28 [.one (.i .i64)] (.q 29 (.q 30 (.q 31 (.q 32 (.q 34 (.m1 33 (.m1 35 (.qc 36 [.one .b] (.q 37 (.q 38 .done))))))))))))))))))))))))))))))))))))))))]⟩
  [.one (.i .i64), .one .s] (by kernel_rfl)
  (fun x K h => F24 x.1 x.2.1 (fun r1 h' => K (.bool r1) h') h)
  (fun x K h => B24 x.1 x.2.1 (fun r1 h' => K (.bool r1) h') h)
  (by rw [F24_eq]) (fun x K h => by kernel_rfl)

/-- pantry/pantrylaw08.SlotsApart -/
def B25 (p0 : Int) (p1 : Sl) (Q : Bool → H → Prop) (h : H) : Prop :=
  Asr ((200 : Int) ≠ 0)
  (LetI (IntKind.wrap .i64 (Int.tmod p0 200)) fun n1 =>
  F66 n1 (fun r2 h3 =>
  JoinM (σ := Unit) (fun J4 =>
  Br (Option.isNone r2)
  (Br (!(Option.isNone r2))
  (F67  (fun r7 h8 =>
  Q r7 h8) h3)
  (Q false h3))
  (Br (decide (((p1.len : Nat) : Int) > 200))
  (Br (!(Option.isNone r2))
  (F67  (fun r9 h10 =>
  Q r9 h10) h3)
  (Q false h3))
  (J4 (()) h3)))
  (fun y5 h6 =>
  Mk Try.prog ⟨none, 3, 1, 8⟩ h6 n1 n1 fun s11 h12 =>
  LoopM (σ := Int × Unit) (fun self13 z14 h15 =>
  Br (decide (z14.1 < ((p1.len : Nat) : Int)))
  (IdxS p1.a p1.len z14.1 fun a16 =>
  Ld (.i .i64) h15 ((a16.add (Int.toNat z14.1 * 2)).add 0) fun x17 =>
  Ld (.i .i64) h15 ((a16.add (Int.toNat z14.1 * 2)).add 1) fun x18 =>
  Nw h15 (zeroC Try.prog 55) 55 fun a19 h20 =>
  St h20 (a19.add 0) (.int .i64 x17) fun h21 =>
  St h21 (a19.add 1) (.int .i64 x18) fun h22 =>
  JoinM (σ := Unit) (fun J23 =>
  Ld (.i .i64) h22 ((a19.add 0).add 0) fun x26 =>
  Br (x26 == 0)
  (Br (x26 == 0)
  (JoinM (σ := Int × Unit) (fun J27 =>
  Ld (.i .i64) h22 ((a19.add 0).add 0) fun x30 =>
  Br (x30 == 1)
  (Ld (.i .i64) h22 ((a19.add 1).add 0) fun x31 =>
  LetI x31 fun n32 =>
  J27 (n32, ()) h22)
  (J27 (1, ()) h22))
  (fun y28 h29 =>
  F69 r2 y28.1 (fun r33 r34 h35 =>
  LetI r33 fun n36 =>
  LetI n36 fun n37 =>
  LoopM (σ := Int × Unit) (fun self38 z39 h40 =>
  JoinM (σ := Unit) (fun J41 =>
  Br r34
  (Br (decide (z39.1 < (IntKind.wrap .i64 (n36 + y28.1))))
  (J41 (()) h40)
  (J23 (()) h40))
  (J23 (()) h40))
  (fun y42 h43 =>
  JoinM (σ := Unit) (fun J44 =>
  Br (decide (z39.1 < 0))
  (Q false h43)
  (Br (decide (z39.1 ≥ n1))
  (Q false h43)
  (IdxS s11.a s11.len z39.1 fun a47 =>
  Ld (.i .i64) h43 ((a47.add (Int.toNat z39.1 * 1)).add 0) fun x48 =>
  Br (x48 != 0)
  (Q false h43)
  (J44 (()) h43))))
  (fun y45 h46 =>
  IdxS s11.a s11.len z39.1 fun a49 =>
  St h46 ((a49.add (Int.toNat z39.1 * 1)).add 0) (.int .i64 1) fun h50 =>
  LetI (IntKind.wrap .i64 (z39.1 + 1)) fun n51 =>
  self38 (n51, ()) h50))) (n37, ()) h35) h29))
  (Br (x26 == 2)
  (Ld (.i .i64) h22 ((a19.add 1).add 0) fun x52 =>
  F70 r2 x52 (fun r53 h54 =>
  Br r53
  (JoinM (σ := Unit) (fun J55 =>
  Ld (.i .i64) h54 ((a19.add 1).add 0) fun x58 =>
  Br (decide (x58 < 0))
  (Q false h54)
  (Ld (.i .i64) h54 ((a19.add 1).add 0) fun x59 =>
  Br (decide (x59 ≥ n1))
  (Q false h54)
  (Ld (.i .i64) h54 ((a19.add 1).add 0) fun x60 =>
  IdxS s11.a s11.len x60 fun a61 =>
  Ld (.i .i64) h54 ((a61.add (Int.toNat x60 * 1)).add 0) fun x62 =>
  Br (x62 != 1)
  (Q false h54)
  (J55 (()) h54))))
  (fun y56 h57 =>
  Ld (.i .i64) h57 ((a19.add 1).add 0) fun x63 =>
  IdxS s11.a s11.len x63 fun a64 =>
  St h57 ((a64.add (Int.toNat x63 * 1)).add 0) (.int .i64 0) fun h65 =>
  J23 (()) h65))
  (J23 (()) h54)) h22)
  (Br (x26 == 3)
  (Ld (.i .i64) h22 ((a19.add 1).add 0) fun x66 =>
  F71 r2 x66 (fun r67 h68 =>
  Br r67
  (JoinM (σ := Unit) (fun J69 =>
  Ld (.i .i64) h68 ((a19.add 1).add 0) fun x72 =>
  Br (decide (x72 < 0))
  (Q false h68)
  (Ld (.i .i64) h68 ((a19.add 1).add 0) fun x73 =>
  Br (decide (x73 ≥ n1))
  (Q false h68)
  (Ld (.i .i64) h68 ((a19.add 1).add 0) fun x74 =>
  IdxS s11.a s11.len x74 fun a75 =>
  Ld (.i .i64) h68 ((a75.add (Int.toNat x74 * 1)).add 0) fun x76 =>
  Br (x76 == 2)
  (Q false h68)
  (J69 (()) h68))))
  (fun y70 h71 =>
  Ld (.i .i64) h71 ((a19.add 1).add 0) fun x77 =>
  IdxS s11.a s11.len x77 fun a78 =>
  St h71 ((a78.add (Int.toNat x77 * 1)).add 0) (.int .i64 2) fun h79 =>
  J23 (()) h79))
  (J23 (()) h68)) h22)
  (J23 (()) h22))))
  (Br (x26 == 1)
  (JoinM (σ := Int × Unit) (fun J80 =>
  Ld (.i .i64) h22 ((a19.add 0).add 0) fun x83 =>
  Br (x83 == 1)
  (Ld (.i .i64) h22 ((a19.add 1).add 0) fun x84 =>
  LetI x84 fun n85 =>
  J80 (n85, ()) h22)
  (J80 (1, ()) h22))
  (fun y81 h82 =>
  F69 r2 y81.1 (fun r86 r87 h88 =>
  LetI r86 fun n89 =>
  LetI n89 fun n90 =>
  LoopM (σ := Int × Unit) (fun self91 z92 h93 =>
  JoinM (σ := Unit) (fun J94 =>
  Br r87
  (Br (decide (z92.1 < (IntKind.wrap .i64 (n89 + y81.1))))
  (J94 (()) h93)
  (J23 (()) h93))
  (J23 (()) h93))
  (fun y95 h96 =>
  JoinM (σ := Unit) (fun J97 =>
  Br (decide (z92.1 < 0))
  (Q false h96)
  (Br (decide (z92.1 ≥ n1))
  (Q false h96)
  (IdxS s11.a s11.len z92.1 fun a100 =>
  Ld (.i .i64) h96 ((a100.add (Int.toNat z92.1 * 1)).add 0) fun x101 =>
  Br (x101 != 0)
  (Q false h96)
  (J97 (()) h96))))
  (fun y98 h99 =>
  IdxS s11.a s11.len z92.1 fun a102 =>
  St h99 ((a102.add (Int.toNat z92.1 * 1)).add 0) (.int .i64 1) fun h103 =>
  LetI (IntKind.wrap .i64 (z92.1 + 1)) fun n104 =>
  self91 (n104, ()) h103))) (n90, ()) h88) h82))
  (Br (x26 == 2)
  (Ld (.i .i64) h22 ((a19.add 1).add 0) fun x105 =>
  F70 r2 x105 (fun r106 h107 =>
  Br r106
  (JoinM (σ := Unit) (fun J108 =>
  Ld (.i .i64) h107 ((a19.add 1).add 0) fun x111 =>
  Br (decide (x111 < 0))
  (Q false h107)
  (Ld (.i .i64) h107 ((a19.add 1).add 0) fun x112 =>
  Br (decide (x112 ≥ n1))
  (Q false h107)
  (Ld (.i .i64) h107 ((a19.add 1).add 0) fun x113 =>
  IdxS s11.a s11.len x113 fun a114 =>
  Ld (.i .i64) h107 ((a114.add (Int.toNat x113 * 1)).add 0) fun x115 =>
  Br (x115 != 1)
  (Q false h107)
  (J108 (()) h107))))
  (fun y109 h110 =>
  Ld (.i .i64) h110 ((a19.add 1).add 0) fun x116 =>
  IdxS s11.a s11.len x116 fun a117 =>
  St h110 ((a117.add (Int.toNat x116 * 1)).add 0) (.int .i64 0) fun h118 =>
  J23 (()) h118))
  (J23 (()) h107)) h22)
  (Br (x26 == 3)
  (Ld (.i .i64) h22 ((a19.add 1).add 0) fun x119 =>
  F71 r2 x119 (fun r120 h121 =>
  Br r120
  (JoinM (σ := Unit) (fun J122 =>
  Ld (.i .i64) h121 ((a19.add 1).add 0) fun x125 =>
  Br (decide (x125 < 0))
  (Q false h121)
  (Ld (.i .i64) h121 ((a19.add 1).add 0) fun x126 =>
  Br (decide (x126 ≥ n1))
  (Q false h121)
  (Ld (.i .i64) h121 ((a19.add 1).add 0) fun x127 =>
  IdxS s11.a s11.len x127 fun a128 =>
  Ld (.i .i64) h121 ((a128.add (Int.toNat x127 * 1)).add 0) fun x129 =>
  Br (x129 == 2)
  (Q false h121)
  (J122 (()) h121))))
  (fun y123 h124 =>
  Ld (.i .i64) h124 ((a19.add 1).add 0) fun x130 =>
  IdxS s11.a s11.len x130 fun a131 =>
  St h124 ((a131.add (Int.toNat x130 * 1)).add 0) (.int .i64 2) fun h132 =>
  J23 (()) h132))
  (J23 (()) h121)) h22)
  (J23 (()) h22)))))
  (fun y24 h25 =>
  F111 r2 0 (fun r133 h134 =>
  F111 r2 1 (fun r135 h136 =>
  F111 r2 2 (fun r137 h138 =>
  Br ((IntKind.wrap .i64 ((IntKind.wrap .i64 (r133 + r135)) + r137)) != n1)
  (Q false h138)
  (self13 ((IntKind.wrap .i64 (z14.1 + 1)), ()) h138)) h136) h134) h25))
  (LoopM (σ := Int × Unit) (fun self139 z140 h141 =>
  Br (decide (z140.1 < ((s11.len : Nat) : Int)))
  (IdxS s11.a s11.len z140.1 fun a142 =>
  Ld (.i .i64) h141 ((a142.add (Int.toNat z140.1 * 1)).add 0) fun x143 =>
  LetI z140.1 fun n144 =>
  LetI x143 fun n145 =>
  F73 r2 n144 (fun r146 h147 =>
  Br (r146 != n145)
  (Q false h147)
  (self139 ((IntKind.wrap .i64 (z140.1 + 1)), ()) h147)) h141)
  (F67  (fun r148 h149 =>
  Q r148 h149) h141)) (0, ()) h15)) (0, ()) h12)) h)
noncomputable def F25 := Seal @B25
theorem F25_eq : @F25 = @B25 := Seal_eq _
noncomputable def E25 : Ent Try.prog := mkEnt tabOk 25 Try.f25 (Try.f25.body.getD .skip) Try.func25 (by kernel_rfl)
  [E66, E67, E69, E70, E71, E111, E73]
  ⟨[(5, []), (15, [(10, .one (.i .i64))]), (19, []), (21, []), (26, []), (31, []), (32, [])], [(7, [(37, .one (.i .i64))]), (17, [(13, .one (.i .i64))]), (36, [(152, .one (.i .i64))])], []⟩
  [.one (.i .u64), .one .s] (by kernel_rfl)
  (fun x K h => F25 x.1 x.2.1 (fun r1 h' => K (.bool r1) h') h)
  (fun x K h => B25 x.1 x.2.1 (fun r1 h' => K (.bool r1) h') h)
  (by rw [F25_eq]) (fun x K h => by kernel_rfl)

/-- pantry/pantrylaw08.SlotsRuns -/
def B26 (p0 : Sl) (p1 : Int) (Q : Bool → H → Prop) (h : H) : Prop :=
  F66 100 (fun r1 h2 =>
  JoinM (σ := Unit) (fun J3 =>
  Br (Option.isNone r1)
  (Br (!(Option.isNone r1))
  (F67  (fun r6 h7 =>
  Q r6 h7) h2)
  (Q false h2))
  (Br (decide (((p0.len : Nat) : Int) > 200))
  (Br (!(Option.isNone r1))
  (F67  (fun r8 h9 =>
  Q r8 h9) h2)
  (Q false h2))
  (J3 (()) h2)))
  (fun y4 h5 =>
  LoopM (σ := Int × Unit) (fun self10 z11 h12 =>
  Br (decide (z11.1 < ((p0.len : Nat) : Int)))
  (IdxS p0.a p0.len z11.1 fun a13 =>
  Ld (.i .u64) h12 ((a13.add (Int.toNat z11.1 * 1)).add 0) fun x14 =>
  LetI x14 fun n15 =>
  Asr ((100 : Int) ≠ 0)
  (F71 r1 (IntKind.wrap .i64 (Int.tmod n15 100)) (fun r16 h17 =>
  self10 ((IntKind.wrap .i64 (z11.1 + 1)), ()) h17) h12))
  (Asr ((20 : Int) ≠ 0)
  (LetI (IntKind.wrap .i64 (1 + (IntKind.wrap .i64 (Int.tmod p1 20)))) fun n18 =>
  F72 r1 (fun r19 h20 =>
  Br (((r19.len : Nat) : Int) != 2)
  (Q false h20)
  (F69 r1 n18 (fun r21 r22 h23 =>
  LetI r21 fun n24 =>
  LoopM (σ := Int × Unit) (fun self25 z26 h27 =>
  Br (decide ((IntKind.wrap .i64 (z26.1 + n18)) ≤ 100))
  (LetI z26.1 fun n28 =>
  LoopM (σ := Bool × Int × Unit) (fun self29 z30 h31 =>
  Br (decide (z30.2.1 < (IntKind.wrap .i64 (z26.1 + n18))))
  (Br z30.1
  (Asr ((64 : Int) ≠ 0)
  (IdxS r19.a r19.len (IntKind.wrap .i64 (Int.tdiv z30.2.1 64)) fun a32 =>
  Ld (.i .u64) h31 ((a32.add (Int.toNat (IntKind.wrap .i64 (Int.tdiv z30.2.1 64)) * 1)).add 0) fun x33 =>
  Asr ((64 : Int) ≠ 0)
  (Asr ((0 : Int) ≤ (IntKind.wrap .u64 (Int.tmod z30.2.1 64)))
  (LetI (IntKind.wrap .i64 (z30.2.1 + 1)) fun n34 =>
  self29 (((bAnd .u64 (shR .u64 x33 (IntKind.wrap .u64 (Int.tmod z30.2.1 64))) 1) == 0), n34, ()) h31))))
  (LetI (IntKind.wrap .i64 (z30.2.1 + 1)) fun n35 =>
  self29 (false, n35, ()) h31))
  (Br z30.1
  (Br r22
  (Br (n24 == z26.1)
  (F111 r1 1 (fun r36 h37 =>
  Br (r36 == n18)
  (F67  (fun r38 h39 =>
  Q r38 h39) h37)
  (Q false h37)) h31)
  (Q false h31))
  (Q false h31))
  (LetI (IntKind.wrap .i64 (z26.1 + 1)) fun n40 =>
  self25 (n40, ()) h31))) (true, n28, ()) h27)
  (Br (!r22)
  (Br (n24 == 0)
  (F72 r1 (fun r41 h42 =>
  F113 r41 r19 (fun r43 h44 =>
  Br r43
  (F67  (fun r45 h46 =>
  Q r45 h46) h44)
  (Q false h44)) h42) h27)
  (Q false h27))
  (Q false h27))) (0, ()) h23) h20)) h12))) (0, ()) h5)) h
noncomputable def F26 := Seal @B26
theorem F26_eq : @F26 = @B26 := Seal_eq _
noncomputable def E26 : Ent Try.prog := mkEnt tabOk 26 Try.f26 (Try.f26.body.getD .skip) Try.func26 (by kernel_rfl)
  [E66, E67, E71, E72, E69, E111, E113]
  ⟨[(4, [])], [(5, [(30, .one (.i .i64))]), (15, [(12, .one (.i .i64))]), (19, [(13, .one .b), (14, .one (.i .i64))])], []⟩
  [.one .s, .one (.i .u64)] (by kernel_rfl)
  (fun x K h => F26 x.1 x.2.1 (fun r1 h' => K (.bool r1) h') h)
  (fun x K h => B26 x.1 x.2.1 (fun r1 h' => K (.bool r1) h') h)
  (by rw [F26_eq]) (fun x K h => by kernel_rfl)

/-- pantry/pantrylaw08.SlotsNone -/
def B27 (p0 : Int) (Q : Bool → H → Prop) (h : H) : Prop :=
  Nw h (zeroC Try.prog 131) 131 fun a1 h2 =>
  LoopM (σ := Int × Unit) (fun self3 z4 h5 =>
  Br (decide (z4.1 < 2))
  (IdxA 2 z4.1
  (F68 (List.getD [none, (some a1)] (Int.toNat z4.1) none) (fun r6 r7 h8 =>
  LetI r6 fun n9 =>
  F69 (List.getD [none, (some a1)] (Int.toNat z4.1) none) p0 (fun r10 r11 h12 =>
  LetI r10 fun n13 =>
  Br r7
  (Q false h12)
  (Br r11
  (Q false h12)
  (F70 (List.getD [none, (some a1)] (Int.toNat z4.1) none) p0 (fun r14 h15 =>
  Br r14
  (Q false h15)
  (F71 (List.getD [none, (some a1)] (Int.toNat z4.1) none) p0 (fun r16 h17 =>
  Br r16
  (Q false h17)
  (F73 (List.getD [none, (some a1)] (Int.toNat z4.1) none) p0 (fun r18 h19 =>
  Br (r18 != (-1))
  (Q false h19)
  (F111 (List.getD [none, (some a1)] (Int.toNat z4.1) none) 0 (fun r20 h21 =>
  F111 (List.getD [none, (some a1)] (Int.toNat z4.1) none) 1 (fun r22 h23 =>
  F111 (List.getD [none, (some a1)] (Int.toNat z4.1) none) 2 (fun r24 h25 =>
  F72 (List.getD [none, (some a1)] (Int.toNat z4.1) none) (fun r26 h27 =>
  Br ((IntKind.wrap .i64 ((IntKind.wrap .i64 ((IntKind.wrap .i64 (r20 + r22)) + r24)) + ((r26.len : Nat) : Int))) != 0)
  (Q false h27)
  (self3 ((IntKind.wrap .i64 (z4.1 + 1)), ()) h27)) h25) h23) h21) h19)) h17)) h15)) h12))) h8) h5))
  (F67  (fun r28 h29 =>
  Q r28 h29) h5)) (0, ()) h2
noncomputable def F27 := Seal @B27
theorem F27_eq : @F27 = @B27 := Seal_eq _
noncomputable def E27 : Ent Try.prog := mkEnt tabOk 27 Try.f27 (Try.f27.body.getD .skip) Try.func27 (by kernel_rfl)
  [E68, E69, E70, E71, E73, E111, E72, E67]
  ⟨[], [(3, [(11, .one (.i .i64))])], []⟩
  [.one (.i .i64)] (by kernel_rfl)
  (fun x K h => F27 x.1 (fun r1 h' => K (.bool r1) h') h)
  (fun x K h => B27 x.1 (fun r1 h' => K (.bool r1) h') h)
  (by rw [F27_eq]) (fun x K h => by kernel_rfl)

end Go.Proofs.Ytfijchofplkcoaa
