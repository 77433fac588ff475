/-
  PRINTED BY wip/tools/emit.py: what each Go function comes to, as a predicate over the heap (the kernel holds each against the translated program).
-/
import Derived.Test.YtfijchofplkcoaaGj
set_option linter.unusedVariables false
set_option maxRecDepth 100000
namespace Go.Proofs.Ytfijchofplkcoaa

/-- pantry/pantrylaw07.lives -/
def B129 (Q : Bool → H → Prop) (h : H) : Prop :=
  F61 12 (fun r1 h2 =>
  F75 12 0 (fun r3 h4 =>
  F128 r1 r3 1 (fun r5 r6 h7 =>
  LetI r6 fun n8 =>
  JoinM (σ := Unit) (fun J9 =>
  Br (n8 != 0)
  (Q false h7)
  (F132 r5 (fun r12 h13 =>
  Br (r12 != 1)
  (Q false h13)
  (F130 r5 5 9 1 (fun r14 h15 =>
  Br (r14 != 0)
  (Q false h15)
  (F132 r5 (fun r16 h17 =>
  Br (r16 != 3)
  (Q false h17)
  (F130 r5 6 9 1 (fun r18 h19 =>
  Br (r18 != 0)
  (Q false h19)
  (F132 r5 (fun r20 h21 =>
  Br (r20 != 3)
  (Q false h21)
  (J9 (()) h21)) h19)) h17)) h15)) h13)) h7))
  (fun y10 h11 =>
  F134 r5 5 (fun r22 h23 =>
  Br r22
  (F134 r5 6 (fun r24 h25 =>
  Br r24
  (F132 r5 (fun r26 h27 =>
  Q (r26 == 1) h27) h25)
  (Q false h25)) h23)
  (Q false h23)) h11)) h4) h2) h
noncomputable def F129 := Seal @B129
theorem F129_eq : @F129 = @B129 := Seal_eq _
noncomputable def E129 : Ent Try.prog := mkEnt tabOk 129 Try.f129 (Try.f129.body.getD .skip) Try.func129 (by kernel_rfl)
  [E61, E75, E128, E132, E130, E134]
  ⟨[(5, [])], [], []⟩
  [] (by kernel_rfl)
  (fun x K h => F129  (fun r1 h' => K (.bool r1) h') h)
  (fun x K h => B129  (fun r1 h' => K (.bool r1) h') h)
  (by rw [F129_eq]) (fun x K h => by kernel_rfl)

/-- pantry/pantrylaw07.PmapFull -/
def B33 (p0 : Int) (p1 : Int) (p2 : Int) (p3 : Int) (Q : Bool → H → Prop) (h : H) : Prop :=
  Nw h #[(.int .u64 p2), (.int .u64 p3)] 166 fun a1 h2 =>
  Asr ((3 : Int) ≠ 0)
  (IdxA 2 0
  (Ld (.i .u64) h2 ((a1.add (Int.toNat 0 * 1)).add 0) fun x3 =>
  IdxA 2 1
  (Ld (.i .u64) h2 ((a1.add (Int.toNat 1 * 1)).add 0) fun x4 =>
  LetI (IntKind.wrap .i64 (1 + (IntKind.wrap .i64 (Int.tmod p0 3)))) fun n5 =>
  LetI x3 fun n6 =>
  LetI x4 fun n7 =>
  F61 n5 (fun r8 h9 =>
  F75 n5 0 (fun r10 h11 =>
  F128 r8 r10 1 (fun r12 r13 h14 =>
  LetI r13 fun n15 =>
  JoinM (σ := Unit) (fun J16 =>
  Br (n15 != 0)
  (Br (n15 == 0)
  (F129  (fun r19 h20 =>
  Q r19 h20) h14)
  (Q false h14))
  (Br (decide (p1 < 0))
  (Br (n15 == 0)
  (F129  (fun r21 h22 =>
  Q r21 h22) h14)
  (Q false h14))
  (Br (decide (p1 ≥ 67108864))
  (Br (n15 == 0)
  (F129  (fun r23 h24 =>
  Q r23 h24) h14)
  (Q false h14))
  (J16 (()) h14))))
  (fun y17 h18 =>
  Asr (((IntKind.wrap .u64 n5) : Int) ≠ 0)
  (Asr ((7 : Int) ≠ 0)
  (F130 r12 p1 (IntKind.wrap .i64 (Int.tmod n6 (IntKind.wrap .u64 n5))) (IntKind.wrap .i64 (1 + (IntKind.wrap .i64 (Int.tmod n7 7)))) (fun r25 h26 =>
  LetI r25 fun n27 =>
  F131 r12 p1 (fun r28 r29 r30 h31 =>
  Nw h31 (zeroC Try.prog 25) 25 fun a32 h33 =>
  St h33 (a32.add 0) (.int .i64 r28) fun h34 =>
  St h34 (a32.add 1) (.int .i64 r29) fun h35 =>
  Br (n5 == 3)
  (Br (n27 == 0)
  (Br r30
  (F132 r12 (fun r36 h37 =>
  Br (r36 == 3)
  (F98 r10 (fun r38 h39 =>
  Br (r38 == 0)
  (F129  (fun r40 h41 =>
  Q r40 h41) h39)
  (Q false h39)) h37)
  (Q false h37)) h35)
  (Q false h35))
  (Q false h35))
  (Br (n27 == 5)
  (Br (!r30)
  (F132 r12 (fun r42 h43 =>
  Br (r42 == 1)
  (F98 r10 (fun r44 h45 =>
  Br (r44 == (IntKind.wrap .i64 (n5 - 1)))
  (F129  (fun r46 h47 =>
  Q r46 h47) h45)
  (Q false h45)) h43)
  (Q false h43)) h35)
  (Q false h35))
  (Q false h35))) h26) h18)))) h11) h9) h2)))
noncomputable def F33 := Seal @B33
theorem F33_eq : @F33 = @B33 := Seal_eq _
noncomputable def E33 : Ent Try.prog := mkEnt tabOk 33 Try.f33 (Try.f33.body.getD .skip) Try.func33 (by kernel_rfl)
  [E61, E75, E128, E129, E130, E131, E132, E98]
  ⟨[(6, [])], [], [(1, (.q 0 (.q 1 (.q 2 (.q 3 (.q 4 (.q 5 (.q 6 (.q 7 (.q 8 (.q 9 (.q 10 .done))))))))))))]⟩
  [.one (.i .u64), .one (.i .i64), .agg [(.i .u64), (.i .u64)]] (by kernel_rfl)
  (fun x K h => F33 x.1 x.2.1 x.2.2.1.1 x.2.2.1.2.1 (fun r1 h' => K (.bool r1) h') h)
  (fun x K h => B33 x.1 x.2.1 x.2.2.1.1 x.2.2.1.2.1 (fun r1 h' => K (.bool r1) h') h)
  (by rw [F33_eq]) (fun x K h => by kernel_rfl)

/-- pantry/pantrylaw07.put -/
def B133 (p0 : Sl) (p1 : Int) (Q : Sl → H → Prop) (h : H) : Prop :=
  LoopM (σ := Sl × Bool × Int × Unit) (fun self1 z2 h3 =>
  Br (decide (z2.2.2.1 < ((p0.len : Nat) : Int)))
  (IdxS p0.a p0.len z2.2.2.1 fun a4 =>
  Ld (.i .i64) h3 ((a4.add (Int.toNat z2.2.2.1 * 1)).add 0) fun x5 =>
  LetI x5 fun n6 =>
  JoinM (σ := Sl × Bool × Unit) (fun J7 =>
  Br (decide (n6 ≥ p1))
  (Br (!z2.2.1)
  (Nw h3 #[(.int .i64 p1)] 3 fun a10 h11 =>
  App Try.prog ⟨none, 3, 1, 8⟩ h11 z2.1 ⟨(some a10), 1, 1⟩ fun s12 h13 =>
  J7 (s12, true, ()) h13)
  (J7 (z2.1, z2.2.1, ()) h3))
  (J7 (z2.1, z2.2.1, ()) h3))
  (fun y8 h9 =>
  Br (n6 != p1)
  (Nw h9 #[(.int .i64 n6)] 3 fun a14 h15 =>
  App Try.prog ⟨none, 3, 1, 8⟩ h15 y8.1 ⟨(some a14), 1, 1⟩ fun s16 h17 =>
  self1 (s16, y8.2.1, (IntKind.wrap .i64 (z2.2.2.1 + 1)), ()) h17)
  (self1 (y8.1, y8.2.1, (IntKind.wrap .i64 (z2.2.2.1 + 1)), ()) h9)))
  (Br (!z2.2.1)
  (Nw h3 #[(.int .i64 p1)] 3 fun a18 h19 =>
  App Try.prog ⟨none, 3, 1, 8⟩ h19 z2.1 ⟨(some a18), 1, 1⟩ fun s20 h21 =>
  Q s20 h21)
  (Q z2.1 h3))) (⟨none, 0, 0⟩, false, 0, ()) h
noncomputable def F133 := Seal @B133
theorem F133_eq : @F133 = @B133 := Seal_eq _
noncomputable def E133 : Ent Try.prog := mkEnt tabOk 133 Try.f133 (Try.f133.body.getD .skip) Try.func133 (by kernel_rfl)
  []
  ⟨[(9, [(5, .one .s), (6, .one .b)])], [(4, [(5, .one .s), (6, .one .b), (11, .one (.i .i64))])], []⟩
  [.one .s, .one (.i .i64)] (by kernel_rfl)
  (fun x K h => F133 x.1 x.2.1 (fun r1 h' => K (.slice r1.a r1.len r1.cap) h') h)
  (fun x K h => B133 x.1 x.2.1 (fun r1 h' => K (.slice r1.a r1.len r1.cap) h') h)
  (by rw [F133_eq]) (fun x K h => by kernel_rfl)

/-- pantry/pantrylaw07.PmapLeast -/
def B34 (p0 : Sl) (Q : Bool → H → Prop) (h : H) : Prop :=
  Br (decide (((p0.len : Nat) : Int) > 25))
  (F129  (fun r1 h2 =>
  Q r1 h2) h)
  (F61 128 (fun r3 h4 =>
  F75 128 0 (fun r5 h6 =>
  F128 r3 r5 1 (fun r7 r8 h9 =>
  LetI r8 fun n10 =>
  Br (n10 != 0)
  (Q false h9)
  (LoopM (σ := Sl × Sl × Int × Unit) (fun self11 z12 h13 =>
  Br (decide (z12.2.2.1 < ((p0.len : Nat) : Int)))
  (IdxS p0.a p0.len z12.2.2.1 fun a14 =>
  Ld (.i .u64) h13 ((a14.add (Int.toNat z12.2.2.1 * 1)).add 0) fun x15 =>
  LetI x15 fun n16 =>
  Asr ((67108864 : Int) ≠ 0)
  (LetI (IntKind.wrap .i64 (Int.tmod n16 67108864)) fun n17 =>
  F130 r7 n17 1 1 (fun r18 h19 =>
  Br (r18 != 0)
  (Q false h19)
  (Asr ((262144 : Int) ≠ 0)
  (F133 z12.1 (IntKind.wrap .i64 (Int.tdiv n17 262144)) (fun r20 h21 =>
  Asr ((512 : Int) ≠ 0)
  (F133 z12.2.1 (IntKind.wrap .i64 (Int.tdiv n17 512)) (fun r22 h23 =>
  F132 r7 (fun r24 h25 =>
  Br (r24 != (IntKind.wrap .i64 ((IntKind.wrap .i64 (1 + ((r20.len : Nat) : Int))) + ((r22.len : Nat) : Int))))
  (Q false h25)
  (F100 r5 1 (fun r26 h27 =>
  F132 r7 (fun r28 h29 =>
  Br (r26 != r28)
  (Q false h29)
  (self11 (r20, r22, (IntKind.wrap .i64 (z12.2.2.1 + 1)), ()) h29)) h27) h25)) h23) h21)) h19))) h13))
  (LoopM (σ := Int × Unit) (fun self30 z31 h32 =>
  Br (decide (z31.1 < ((p0.len : Nat) : Int)))
  (IdxS p0.a p0.len z31.1 fun a33 =>
  Ld (.i .u64) h32 ((a33.add (Int.toNat z31.1 * 1)).add 0) fun x34 =>
  LetI x34 fun n35 =>
  Asr ((67108864 : Int) ≠ 0)
  (F134 r7 (IntKind.wrap .i64 (Int.tmod n35 67108864)) (fun r36 h37 =>
  self30 ((IntKind.wrap .i64 (z31.1 + 1)), ()) h37) h32))
  (F132 r7 (fun r38 h39 =>
  Br (r38 == 1)
  (F129  (fun r40 h41 =>
  Q r40 h41) h39)
  (Q false h39)) h32)) (0, ()) h13)) (⟨none, 0, 0⟩, ⟨none, 0, 0⟩, 0, ()) h9)) h6) h4) h)
noncomputable def F34 := Seal @B34
theorem F34_eq : @F34 = @B34 := Seal_eq _
noncomputable def E34 : Ent Try.prog := mkEnt tabOk 34 Try.f34 (Try.f34.body.getD .skip) Try.func34 (by kernel_rfl)
  [E129, E61, E75, E128, E130, E133, E132, E100, E134]
  ⟨[], [(9, [(7, .one .s), (8, .one .s), (30, .one (.i .i64))]), (19, [(68, .one (.i .i64))])], []⟩
  [.one .s] (by kernel_rfl)
  (fun x K h => F34 x.1 (fun r1 h' => K (.bool r1) h') h)
  (fun x K h => B34 x.1 (fun r1 h' => K (.bool r1) h') h)
  (by rw [F34_eq]) (fun x K h => by kernel_rfl)

/-- pantry/pantrylaw07.copied -/
def B135 (p0 : Option Addr) (Q : Option Addr → H → Prop) (h : H) : Prop :=
  F93 p0 (fun r1 h2 =>
  F88 r1 (fun r3 h4 =>
  Br (Option.isNone r3)
  (Nw h4 #[(.slice none 0 0)] 96 fun a5 h6 =>
  Q (some a5) h6)
  (NilP r3 fun a7 =>
  Ld .s h4 ((a7.add 0).add 0) fun x8 =>
  LoopM (σ := Int × Unit) (fun self9 z10 h11 =>
  Br (decide (z10.1 < ((x8.len : Nat) : Int)))
  (LetI z10.1 fun n12 =>
  F64 p0 n12 (fun r13 h14 =>
  F169 r3 n12 r13 (fun r15 h16 =>
  self9 ((IntKind.wrap .i64 (z10.1 + 1)), ()) h16) h14) h11)
  (Q r3 h11)) (0, ()) h4)) h2) h
noncomputable def F135 := Seal @B135
theorem F135_eq : @F135 = @B135 := Seal_eq _
noncomputable def E135 : Ent Try.prog := mkEnt tabOk 135 Try.f135 (Try.f135.body.getD .skip) Try.func135 (by kernel_rfl)
  [E93, E88, E64, E169]
  ⟨[], [(5, [(17, .one (.i .i64))])], []⟩
  [.one .p] (by kernel_rfl)
  (fun x K h => F135 x.1 (fun r1 h' => K (.pointer r1) h') h)
  (fun x K h => B135 x.1 (fun r1 h' => K (.pointer r1) h') h)
  (by rw [F135_eq]) (fun x K h => by kernel_rfl)

/-- pantry/pantrylaw07.PmapFlags -/
def B35 (p0 : Int) (p1 : Int) (p2 : Int) (Q : Bool → H → Prop) (h : H) : Prop :=
  F61 8 (fun r1 h2 =>
  F75 8 0 (fun r3 h4 =>
  F128 r1 r3 1 (fun r5 r6 h7 =>
  LetI r6 fun n8 =>
  JoinM (σ := Unit) (fun J9 =>
  Br (n8 != 0)
  (Q false h7)
  (Asr ((7 : Int) ≠ 0)
  (F130 r5 9 2 (IntKind.wrap .i64 (1 + (IntKind.wrap .i64 (Int.tmod p0 7)))) (fun r12 h13 =>
  Br (r12 != 0)
  (Q false h13)
  (J9 (()) h13)) h7)))
  (fun y10 h11 =>
  F135 r1 (fun r14 h15 =>
  F136 r5 (fun r16 h17 =>
  F121 r14 r16 9 (fun r18 r19 r20 h21 =>
  LetI r18 fun n22 =>
  LetI r19 fun n23 =>
  F83 r1 n22 n23 (fun r24 r25 h26 =>
  LetI r24 fun n27 =>
  F82 r1 n22 n23 (bOr .u64 (bOr .u64 n27 64) 128) (fun r28 h29 =>
  JoinM (σ := Unit) (fun J30 =>
  Br (!r20)
  (Q false h29)
  (Asr ((7 : Int) ≠ 0)
  (F137 r5 9 (IntKind.wrap .i64 (1 + (IntKind.wrap .i64 (Int.tmod p1 7)))) (fun r33 h34 =>
  Br (!r33)
  (Q false h34)
  (J30 (()) h34)) h29)))
  (fun y31 h32 =>
  F131 r5 9 (fun r35 r36 r37 h38 =>
  Nw h38 (zeroC Try.prog 25) 25 fun a39 h40 =>
  St h40 (a39.add 0) (.int .i64 r35) fun h41 =>
  St h41 (a39.add 1) (.int .i64 r36) fun h42 =>
  F138 r5 9 p2 (fun r43 h44 =>
  LetI r43 fun n45 =>
  F131 r5 9 (fun r46 r47 r48 h49 =>
  Nw h49 (zeroC Try.prog 25) 25 fun a50 h51 =>
  St h51 (a50.add 0) (.int .i64 r46) fun h52 =>
  St h52 (a50.add 1) (.int .i64 r47) fun h53 =>
  Ld (.i .i64) h53 ((a39.add 0).add 0) fun x54 =>
  Br ((bAnd .i64 x54 192) == 192)
  (Br (n45 == (bAnd .i64 p2 192))
  (Ld (.i .i64) h53 ((a50.add 0).add 0) fun x55 =>
  Ld (.i .i64) h53 ((a39.add 0).add 0) fun x56 =>
  Br (x55 == (IntKind.wrap .i64 (x56 - n45)))
  (Ld (.i .i64) h53 ((a50.add 1).add 0) fun x57 =>
  Br (x57 == 2)
  (F138 r5 9 p2 (fun r58 h59 =>
  Br (r58 == 0)
  (F129  (fun r60 h61 =>
  Q r60 h61) h59)
  (Q false h59)) h53)
  (Q false h53))
  (Q false h53))
  (Q false h53))
  (Q false h53)) h44) h42) h32)) h26) h21) h17) h15) h11)) h4) h2) h
noncomputable def F35 := Seal @B35
theorem F35_eq : @F35 = @B35 := Seal_eq _
noncomputable def E35 : Ent Try.prog := mkEnt tabOk 35 Try.f35 (Try.f35.body.getD .skip) Try.func35 (by kernel_rfl)
  [E61, E75, E128, E130, E135, E136, E121, E83, E82, E137, E131, E138, E129]
  ⟨[(5, []), (10, [])], [], []⟩
  [.one (.i .u64), .one (.i .u64), .one (.i .i64)] (by kernel_rfl)
  (fun x K h => F35 x.1 x.2.1 x.2.2.1 (fun r1 h' => K (.bool r1) h') h)
  (fun x K h => B35 x.1 x.2.1 x.2.2.1 (fun r1 h' => K (.bool r1) h') h)
  (by rw [F35_eq]) (fun x K h => by kernel_rfl)

/-- pantry/pantrylaw07.PmapApart -/
def B36 (p0 : Int) (p1 : Int) (p2 : Sl) (Q : Bool → H → Prop) (h : H) : Prop :=
  F61 60 (fun r1 h2 =>
  F75 60 0 (fun r3 h4 =>
  F128 r1 r3 1 (fun r5 r6 h7 =>
  LetI r6 fun n8 =>
  F128 r1 r3 2 (fun r9 r10 h11 =>
  LetI r10 fun n12 =>
  Asr ((67108864 : Int) ≠ 0)
  (Asr ((67108864 : Int) ≠ 0)
  (LetI (IntKind.wrap .i64 (Int.tmod p0 67108864)) fun n13 =>
  LetI (IntKind.wrap .i64 (Int.tmod p1 67108864)) fun n14 =>
  JoinM (σ := Unit) (fun J15 =>
  Br (n8 != 0)
  (Br (n8 == 0)
  (Br (n12 == 0)
  (Br (decide (((p2.len : Nat) : Int) > 12))
  (F129  (fun r18 h19 =>
  Q r18 h19) h11)
  (Q false h11))
  (Q false h11))
  (Q false h11))
  (Br (n12 != 0)
  (Br (n8 == 0)
  (Br (n12 == 0)
  (Br (decide (((p2.len : Nat) : Int) > 12))
  (F129  (fun r20 h21 =>
  Q r20 h21) h11)
  (Q false h11))
  (Q false h11))
  (Q false h11))
  (Br (decide (((p2.len : Nat) : Int) > 12))
  (Br (n8 == 0)
  (Br (n12 == 0)
  (Br (decide (((p2.len : Nat) : Int) > 12))
  (F129  (fun r22 h23 =>
  Q r22 h23) h11)
  (Q false h11))
  (Q false h11))
  (Q false h11))
  (F130 r5 n13 1 1 (fun r24 h25 =>
  Br (r24 != 0)
  (Br (n8 == 0)
  (Br (n12 == 0)
  (Br (decide (((p2.len : Nat) : Int) > 12))
  (F129  (fun r26 h27 =>
  Q r26 h27) h25)
  (Q false h25))
  (Q false h25))
  (Q false h25))
  (F130 r9 n14 2 3 (fun r28 h29 =>
  Br (r28 != 0)
  (Br (n8 == 0)
  (Br (n12 == 0)
  (Br (decide (((p2.len : Nat) : Int) > 12))
  (F129  (fun r30 h31 =>
  Q r30 h31) h29)
  (Q false h29))
  (Q false h29))
  (Q false h29))
  (J15 (()) h29)) h25)) h11))))
  (fun y16 h17 =>
  LoopM (σ := Int × Unit) (fun self32 z33 h34 =>
  Br (decide (z33.1 < ((p2.len : Nat) : Int)))
  (IdxS p2.a p2.len z33.1 fun a35 =>
  Ld (.i .i64) h34 ((a35.add (Int.toNat z33.1 * 5)).add 0) fun x36 =>
  Ld (.i .i64) h34 ((a35.add (Int.toNat z33.1 * 5)).add 1) fun x37 =>
  Ld (.i .i64) h34 ((a35.add (Int.toNat z33.1 * 5)).add 2) fun x38 =>
  Ld (.i .i64) h34 ((a35.add (Int.toNat z33.1 * 5)).add 3) fun x39 =>
  Ld (.i .i64) h34 ((a35.add (Int.toNat z33.1 * 5)).add 4) fun x40 =>
  Nw h34 (zeroC Try.prog 179) 179 fun a41 h42 =>
  St h42 (a41.add 0) (.int .i64 x36) fun h43 =>
  St h43 (a41.add 1) (.int .i64 x37) fun h44 =>
  St h44 (a41.add 2) (.int .i64 x38) fun h45 =>
  St h45 (a41.add 3) (.int .i64 x39) fun h46 =>
  St h46 (a41.add 4) (.int .i64 x40) fun h47 =>
  JoinM (σ := Unit) (fun J48 =>
  Ld (.i .i64) h47 ((a41.add 0).add 0) fun x51 =>
  Br (x51 == 0)
  (Ld (.i .i64) h47 ((a41.add 2).add 0) fun x52 =>
  Ld (.i .i64) h47 ((a41.add 3).add 0) fun x53 =>
  Ld (.i .i64) h47 ((a41.add 4).add 0) fun x54 =>
  F130 r9 x52 x53 x54 (fun r55 h56 =>
  J48 (()) h56) h47)
  (Br (x51 == 1)
  (Ld (.i .i64) h47 ((a41.add 2).add 0) fun x57 =>
  F134 r9 x57 (fun r58 h59 =>
  J48 (()) h59) h47)
  (Br (x51 == 2)
  (Ld (.i .i64) h47 ((a41.add 2).add 0) fun x60 =>
  Ld (.i .i64) h47 ((a41.add 4).add 0) fun x61 =>
  F137 r9 x60 x61 (fun r62 h63 =>
  J48 (()) h63) h47)
  (Br (x51 == 3)
  (Ld (.i .i64) h47 ((a41.add 2).add 0) fun x64 =>
  Ld (.i .i64) h47 ((a41.add 4).add 0) fun x65 =>
  F138 r9 x64 x65 (fun r66 h67 =>
  J48 (()) h67) h47)
  (J48 (()) h47)))))
  (fun y49 h50 =>
  F131 r5 n13 (fun r68 r69 r70 h71 =>
  Nw h71 (zeroC Try.prog 25) 25 fun a72 h73 =>
  St h73 (a72.add 0) (.int .i64 r68) fun h74 =>
  St h74 (a72.add 1) (.int .i64 r69) fun h75 =>
  Br (!r70)
  (Q false h75)
  (Ld (.i .i64) h75 ((a72.add 1).add 0) fun x76 =>
  Br (x76 != 1)
  (Q false h75)
  (F132 r5 (fun r77 h78 =>
  Br (r77 != 3)
  (Q false h78)
  (self32 ((IntKind.wrap .i64 (z33.1 + 1)), ()) h78)) h75))) h50))
  (JoinM (σ := Unit) (fun J79 =>
  Br (n13 != n14)
  (F131 r5 n14 (fun r82 r83 r84 h85 =>
  Nw h85 (zeroC Try.prog 25) 25 fun a86 h87 =>
  St h87 (a86.add 0) (.int .i64 r82) fun h88 =>
  St h88 (a86.add 1) (.int .i64 r83) fun h89 =>
  Br r84
  (Q false h89)
  (J79 (()) h89)) h34)
  (J79 (()) h34))
  (fun y80 h81 =>
  F139 r9 (fun r90 h91 =>
  F131 r5 n13 (fun r92 r93 r94 h95 =>
  Nw h95 (zeroC Try.prog 25) 25 fun a96 h97 =>
  St h97 (a96.add 0) (.int .i64 r92) fun h98 =>
  St h98 (a96.add 1) (.int .i64 r93) fun h99 =>
  Br r94
  (Ld (.i .i64) h99 ((a96.add 1).add 0) fun x100 =>
  Br (x100 == 1)
  (F100 r3 1 (fun r101 h102 =>
  Br (r101 == 3)
  (F129  (fun r103 h104 =>
  Q r103 h104) h102)
  (Q false h102)) h99)
  (Q false h99))
  (Q false h99)) h91) h81))) (0, ()) h17)))) h7) h4) h2) h
noncomputable def F36 := Seal @B36
theorem F36_eq : @F36 = @B36 := Seal_eq _
noncomputable def E36 : Ent Try.prog := mkEnt tabOk 36 Try.f36 (Try.f36.body.getD .skip) Try.func36 (by kernel_rfl)
  [E61, E75, E128, E129, E130, E134, E137, E138, E131, E132, E139, E100]
  ⟨[(7, []), (19, []), (27, [])], [(8, [(82, .one (.i .i64))])], []⟩
  [.one (.i .u64), .one (.i .u64), .one .s] (by kernel_rfl)
  (fun x K h => F36 x.1 x.2.1 x.2.2.1 (fun r1 h' => K (.bool r1) h') h)
  (fun x K h => B36 x.1 x.2.1 x.2.2.1 (fun r1 h' => K (.bool r1) h') h)
  (by rw [F36_eq]) (fun x K h => by kernel_rfl)

/-- pantry/pantrylaw07.alike -/
def B146 (p0 : Option Addr) (p1 : Option Addr) (p2 : Option Addr) (p3 : Option Addr) (Q : Bool → H → Prop) (h : H) : Prop :=
  NilP p2 fun a1 =>
  Ld .s h ((a1.add 0).add 0) fun x2 =>
  LoopM (σ := Int × Unit) (fun self3 z4 h5 =>
  Br (decide (z4.1 < ((x2.len : Nat) : Int)))
  (LetI z4.1 fun n6 =>
  F78 p1 n6 (fun r7 r8 r9 r10 r11 r12 h13 =>
  Nw h13 (zeroC Try.prog 72) 72 fun a14 h15 =>
  St h15 (a14.add 0) (.int .i64 r7) fun h16 =>
  St h16 (a14.add 1) (.int .i64 r8) fun h17 =>
  St h17 (a14.add 2) (.int .i64 r9) fun h18 =>
  St h18 (a14.add 3) (.int .i64 r10) fun h19 =>
  St h19 (a14.add 4) (.int .i64 r11) fun h20 =>
  Ld (.i .i64) h20 (a14.add 0) fun x21 =>
  Ld (.i .i64) h20 (a14.add 1) fun x22 =>
  Ld (.i .i64) h20 (a14.add 2) fun x23 =>
  Ld (.i .i64) h20 (a14.add 3) fun x24 =>
  Ld (.i .i64) h20 (a14.add 4) fun x25 =>
  NilP p3 fun a26 =>
  Ld .s h20 ((a26.add 0).add 0) fun x27 =>
  IdxS x27.a x27.len n6 fun a28 =>
  Ld (.i .i64) h20 ((a28.add (Int.toNat n6 * 5)).add 0) fun x29 =>
  Ld (.i .i64) h20 ((a28.add (Int.toNat n6 * 5)).add 1) fun x30 =>
  Ld (.i .i64) h20 ((a28.add (Int.toNat n6 * 5)).add 2) fun x31 =>
  Ld (.i .i64) h20 ((a28.add (Int.toNat n6 * 5)).add 3) fun x32 =>
  Ld (.i .i64) h20 ((a28.add (Int.toNat n6 * 5)).add 4) fun x33 =>
  Br (!((x21 == x29) && ((x22 == x30) && ((x23 == x31) && ((x24 == x32) && ((x25 == x33) && true))))))
  (Q false h20)
  (Ld (.i .i64) h20 ((a14.add 0).add 0) fun x34 =>
  Br (x34 == 1)
  (NilP p2 fun a35 =>
  Ld .s h20 ((a35.add 0).add 0) fun x36 =>
  IdxS x36.a x36.len n6 fun a37 =>
  Ld .s h20 ((a37.add (Int.toNat n6 * 1)).add 0) fun x38 =>
  F64 p0 n6 (fun r39 h40 =>
  (hcell h40 ((a37.add (Int.toNat n6 * 1)).add 0) = some (.slice x38.a x38.len x38.cap)) ∧
  (hcell h40 ((a35.add 0).add 0) = some (.slice x36.a x36.len x36.cap)) ∧
  QC [.one .b] h40 (fun K' h' => F65 r39 x38 (fun r42 h'' => K' (.bool r42) h'') h') fun x41 =>
  Br (!x41.1)
  (Q false h40)
  (self3 ((IntKind.wrap .i64 (z4.1 + 1)), ()) h40)) h20)
  (self3 ((IntKind.wrap .i64 (z4.1 + 1)), ()) h20))) h5)
  (Q true h5)) (0, ()) h
noncomputable def F146 := Seal @B146
theorem F146_eq : @F146 = @B146 := Seal_eq _
noncomputable def E146 : Ent Try.prog := mkEnt tabOk 146 Try.f146 (Try.f146.body.getD .skip) Try.func146 (by kernel_rfl)
  [E78, E64, E65]
  ⟨[], [(2, [(17, .one (.i .i64))])], [(5, (.q 0 (.q 1 (.q 2 (.q 3 (.q 4 (.q 5 (.q 6 (.q 7 (.q 8 (.q 9 (.q 10 (.q 11 (.q 12 (.q 13 (.q 14 (.q 15 (.q 17 (.q 18 (.q 19 (.q 20 (.q 21 (.q 22 (.q 23 (.m1 16 (.qc 24 [.one .b] (.q 25 (.q 26 (.q 27 .done)))))))))))))))))))))))))))))]⟩
  [.one .p, .one .p, .one .p, .one .p] (by kernel_rfl)
  (fun x K h => F146 x.1 x.2.1 x.2.2.1 x.2.2.2.1 (fun r1 h' => K (.bool r1) h') h)
  (fun x K h => B146 x.1 x.2.1 x.2.2.1 x.2.2.2.1 (fun r1 h' => K (.bool r1) h') h)
  (by rw [F146_eq]) (fun x K h => by kernel_rfl)

/-- pantry/pantrylaw07.PmapActs -/
def B37 (p0 : Int) (p1 : Int) (p2 : Sl) (Q : Bool → H → Prop) (h : H) : Prop :=
  Nw h #[(.int .i64 p0), (.int .i64 p1)] 182 fun a1 h2 =>
  Ld (.i .i64) h2 ((a1.add 0).add 0) fun x3 =>
  Asr ((24 : Int) ≠ 0)
  (Ld (.i .i64) h2 ((a1.add 1).add 0) fun x4 =>
  Asr ((3 : Int) ≠ 0)
  (LetI (IntKind.wrap .i64 (1 + (IntKind.wrap .i64 (Int.tmod (IntKind.wrap .u64 x3) 24)))) fun n5 =>
  LetI (IntKind.wrap .i64 (1 + (IntKind.wrap .i64 (Int.tmod (IntKind.wrap .u64 x4) 3)))) fun n6 =>
  Br (decide (((p2.len : Nat) : Int) > 40))
  (F129  (fun r7 h8 =>
  Q r7 h8) h2)
  (F61 n5 (fun r9 h10 =>
  F75 n5 0 (fun r11 h12 =>
  F88 n5 (fun r13 h14 =>
  F95 n5 0 (fun r15 h16 =>
  JoinM (σ := Unit) (fun J17 =>
  Br (Option.isNone r9)
  (Q false h16)
  (Br (Option.isNone r11)
  (Q false h16)
  (J17 (()) h16)))
  (fun y18 h19 =>
  LoopM (σ := Sl × Sl × Int × Unit) (fun self20 z21 h22 =>
  Br (decide (z21.2.2.1 < n6))
  (F128 r9 r11 (IntKind.wrap .i64 (z21.2.2.1 + 1)) (fun r23 r24 h25 =>
  LetI r24 fun n26 =>
  F140 r13 r15 (IntKind.wrap .i64 (z21.2.2.1 + 1)) (fun r27 r28 h29 =>
  LetI r28 fun n30 =>
  JoinM (σ := Unit) (fun J31 =>
  Br (n26 != n30)
  (Q false h29)
  (Br (!((Option.isNone r23) == (Option.isNone r27)))
  (Q false h29)
  (J31 (()) h29)))
  (fun y32 h33 =>
  Br (!(Option.isNone r27))
  (Nw h33 #[(.pointer r23)] 167 fun a34 h35 =>
  App Try.prog ⟨none, 167, 1, 8⟩ h35 z21.1 ⟨(some a34), 1, 1⟩ fun s36 h37 =>
  Nw h37 #[(.pointer r27)] 185 fun a38 h39 =>
  App Try.prog ⟨none, 185, 1, 8⟩ h39 z21.2.1 ⟨(some a38), 1, 1⟩ fun s40 h41 =>
  LetI (IntKind.wrap .i64 (z21.2.2.1 + 1)) fun n42 =>
  self20 (s36, s40, n42, ()) h41)
  (LetI (IntKind.wrap .i64 (z21.2.2.1 + 1)) fun n43 =>
  self20 (z21.1, z21.2.1, n43, ()) h33))) h25) h22)
  (JoinM (σ := Unit) (fun J44 =>
  LoopM (σ := Int × Unit) (fun self47 z48 h49 =>
  Br (decide (z48.1 < ((p2.len : Nat) : Int)))
  (IdxS p2.a p2.len z48.1 fun a50 =>
  Ld (.i .i64) h49 ((a50.add (Int.toNat z48.1 * 5)).add 0) fun x51 =>
  Ld (.i .i64) h49 ((a50.add (Int.toNat z48.1 * 5)).add 1) fun x52 =>
  Ld (.i .i64) h49 ((a50.add (Int.toNat z48.1 * 5)).add 2) fun x53 =>
  Ld (.i .i64) h49 ((a50.add (Int.toNat z48.1 * 5)).add 3) fun x54 =>
  Ld (.i .i64) h49 ((a50.add (Int.toNat z48.1 * 5)).add 4) fun x55 =>
  Nw h49 (zeroC Try.prog 179) 179 fun a56 h57 =>
  St h57 (a56.add 0) (.int .i64 x51) fun h58 =>
  St h58 (a56.add 1) (.int .i64 x52) fun h59 =>
  St h59 (a56.add 2) (.int .i64 x53) fun h60 =>
  St h60 (a56.add 3) (.int .i64 x54) fun h61 =>
  St h61 (a56.add 4) (.int .i64 x55) fun h62 =>
  Br (((z21.2.1.len : Nat) : Int) == 0)
  (J44 (()) h62)
  (Ld (.i .i64) h62 ((a56.add 1).add 0) fun x63 =>
  Asr (((IntKind.wrap .u64 ((z21.2.1.len : Nat) : Int)) : Int) ≠ 0)
  (LetI (IntKind.wrap .i64 (Int.tmod (IntKind.wrap .u64 x63) (IntKind.wrap .u64 ((z21.2.1.len : Nat) : Int)))) fun n64 =>
  IdxS z21.1.a z21.1.len n64 fun a65 =>
  Ld .p h62 ((a65.add (Int.toNat n64 * 1)).add 0) fun x66 =>
  IdxS z21.2.1.a z21.2.1.len n64 fun a67 =>
  Ld .p h62 ((a67.add (Int.toNat n64 * 1)).add 0) fun x68 =>
  JoinM (σ := Bool × Unit) (fun J69 =>
  Ld (.i .i64) h62 ((a56.add 0).add 0) fun x72 =>
  Br (x72 == 0)
  (Ld (.i .i64) h62 ((a56.add 2).add 0) fun x73 =>
  Ld (.i .i64) h62 ((a56.add 3).add 0) fun x74 =>
  Ld (.i .i64) h62 ((a56.add 4).add 0) fun x75 =>
  Ld (.i .i64) h62 ((a56.add 2).add 0) fun x76 =>
  Ld (.i .i64) h62 ((a56.add 3).add 0) fun x77 =>
  Ld (.i .i64) h62 ((a56.add 4).add 0) fun x78 =>
  F130 x66 x73 x74 x75 (fun r79 h80 =>
  (hcell h80 ((a56.add 4).add 0) = some (.int .i64 x78)) ∧
  (hcell h80 ((a56.add 3).add 0) = some (.int .i64 x77)) ∧
  (hcell h80 ((a56.add 2).add 0) = some (.int .i64 x76)) ∧
  F141 x68 x76 x77 x78 (fun r81 h82 =>
  J69 ((r79 == r81), ()) h82) h80) h62)
  (Br (x72 == 1)
  (Ld (.i .i64) h62 ((a56.add 2).add 0) fun x83 =>
  Ld (.i .i64) h62 ((a56.add 2).add 0) fun x84 =>
  F134 x66 x83 (fun r85 h86 =>
  (hcell h86 ((a56.add 2).add 0) = some (.int .i64 x84)) ∧
  F142 x68 x84 (fun r87 h88 =>
  J69 ((r85 == r87), ()) h88) h86) h62)
  (Br (x72 == 2)
  (Ld (.i .i64) h62 ((a56.add 2).add 0) fun x89 =>
  Ld (.i .i64) h62 ((a56.add 4).add 0) fun x90 =>
  Ld (.i .i64) h62 ((a56.add 2).add 0) fun x91 =>
  Ld (.i .i64) h62 ((a56.add 4).add 0) fun x92 =>
  F137 x66 x89 x90 (fun r93 h94 =>
  (hcell h94 ((a56.add 4).add 0) = some (.int .i64 x92)) ∧
  (hcell h94 ((a56.add 2).add 0) = some (.int .i64 x91)) ∧
  F143 x68 x91 x92 (fun r95 h96 =>
  J69 ((r93 == r95), ()) h96) h94) h62)
  (Br (x72 == 3)
  (Ld (.i .i64) h62 ((a56.add 2).add 0) fun x97 =>
  Ld (.i .i64) h62 ((a56.add 4).add 0) fun x98 =>
  Ld (.i .i64) h62 ((a56.add 2).add 0) fun x99 =>
  Ld (.i .i64) h62 ((a56.add 4).add 0) fun x100 =>
  F138 x66 x97 x98 (fun r101 h102 =>
  (hcell h102 ((a56.add 4).add 0) = some (.int .i64 x100)) ∧
  (hcell h102 ((a56.add 2).add 0) = some (.int .i64 x99)) ∧
  F144 x68 x99 x100 (fun r103 h104 =>
  J69 ((r101 == r103), ()) h104) h102) h62)
  (J69 (true, ()) h62)))))
  (fun y70 h71 =>
  Ld (.i .i64) h71 ((a56.add 2).add 0) fun x105 =>
  F131 x66 x105 (fun r106 r107 r108 h109 =>
  Nw h109 (zeroC Try.prog 25) 25 fun a110 h111 =>
  St h111 (a110.add 0) (.int .i64 r106) fun h112 =>
  St h112 (a110.add 1) (.int .i64 r107) fun h113 =>
  Ld (.i .i64) h113 ((a56.add 2).add 0) fun x114 =>
  F145 x68 x114 (fun r115 r116 r117 h118 =>
  Nw h118 (zeroC Try.prog 25) 25 fun a119 h120 =>
  St h120 (a119.add 0) (.int .i64 r115) fun h121 =>
  St h121 (a119.add 1) (.int .i64 r116) fun h122 =>
  Br (!y70.1)
  (Q false h122)
  (Ld (.i .i64) h122 (a110.add 0) fun x123 =>
  Ld (.i .i64) h122 (a110.add 1) fun x124 =>
  Ld (.i .i64) h122 (a119.add 0) fun x125 =>
  Ld (.i .i64) h122 (a119.add 1) fun x126 =>
  Br (!((x123 == x125) && ((x124 == x126) && true)))
  (Q false h122)
  (Br (!(r108 == r117))
  (Q false h122)
  (QC [.one (.i .i64)] h122 (fun K' h' => F132 x66 (fun r128 h'' => K' (.int .i64 r128) h'') h') fun x127 =>
  NilP x68 fun a129 =>
  Ld (.i .i64) h122 ((a129.add 4).add 0) fun x130 =>
  Br (x127.1 != x130)
  (Q false h122)
  (QC [.one (.i .i64)] h122 (fun K' h' => F136 x66 (fun r132 h'' => K' (.int .i64 r132) h'') h') fun x131 =>
  NilP x68 fun a133 =>
  Ld (.i .i64) h122 ((a133.add 3).add 0) fun x134 =>
  Br (x131.1 != x134)
  (Q false h122)
  (F146 r9 r11 r13 r15 (fun r135 h136 =>
  Br (!r135)
  (Q false h136)
  (self47 ((IntKind.wrap .i64 (z48.1 + 1)), ()) h136)) h122)))))) h113) h71))))
  (J44 (()) h49)) (0, ()) h22)
  (fun y45 h46 =>
  LoopM (σ := Int × Unit) (fun self137 z138 h139 =>
  Br (decide (z138.1 < ((z21.2.1.len : Nat) : Int)))
  (LetI z138.1 fun n140 =>
  IdxS z21.1.a z21.1.len n140 fun a141 =>
  Ld .p h139 ((a141.add (Int.toNat n140 * 1)).add 0) fun x142 =>
  IdxS z21.2.1.a z21.2.1.len n140 fun a143 =>
  Ld .p h139 ((a143.add (Int.toNat n140 * 1)).add 0) fun x144 =>
  F139 x142 (fun r145 h146 =>
  (hcell h146 ((a143.add (Int.toNat n140 * 1)).add 0) = some (.pointer x144)) ∧
  F147 x144 (fun r147 h148 =>
  Br (r145 != r147)
  (Q false h148)
  (IdxS z21.1.a z21.1.len n140 fun a149 =>
  Ld .p h148 ((a149.add (Int.toNat n140 * 1)).add 0) fun x150 =>
  QC [.one (.i .i64)] h148 (fun K' h' => F132 x150 (fun r152 h'' => K' (.int .i64 r152) h'') h') fun x151 =>
  Br (x151.1 != 0)
  (Q false h148)
  (F146 r9 r11 r13 r15 (fun r153 h154 =>
  Br (!r153)
  (Q false h154)
  (self137 ((IntKind.wrap .i64 (z138.1 + 1)), ()) h154)) h148))) h146) h139)
  (F98 r11 (fun r155 h156 =>
  Br (r155 == n5)
  (F129  (fun r157 h158 =>
  Q r157 h158) h156)
  (Q false h156)) h139)) (0, ()) h46))) (⟨none, 0, 0⟩, ⟨none, 0, 0⟩, 0, ()) h19)) h14) h12) h10) h2)))
noncomputable def F37 := Seal @B37
theorem F37_eq : @F37 = @B37 := Seal_eq _
noncomputable def E37 : Ent Try.prog := mkEnt tabOk 37 Try.f37 (Try.f37.body.getD .skip) Try.func37 (by kernel_rfl)
  [E129, E61, E75, E88, E95, E128, E140, E130, E141, E134, E142, E137, E143, E138, E144, E131, E145, E132, E136, E146, E139, E147, E98]
  ⟨[(8, []), (17, []), (35, [(23, .one .b)]), (40, [])], [(11, [(11, .one .s), (12, .one .s), (13, .one (.i .i64))]), (20, [(102, .one (.i .i64))]), (41, [(242, .one (.i .i64))])], [(1, (.q 0 (.q 1 (.q 2 (.q 3 (.q 4 (.q 5 (.q 6 (.q 7 (.q 8 (.q 9 (.q 10 (.q 11 (.q 12 (.q 13 .done))))))))))))))), (24, (.q 0 (.q 1 (.q 2 (.q 3 (.q 4 (.q 5 (.q 6 (.q 7 (.q 8 (.q 9 .done))))))))))), (28, (.q 0 (.q 1 (.q 2 (.q 3 (.q 4 (.q 5 (.q 6 (.q 8 (.q 9 (.q 10 (.q 11 (.q 12 (.q 13 (.q 14 (.m1 7 (.m1 15 (.q 16 (.q 17 .done))))))))))))))))))), (30, (.q 0 (.q 1 (.q 2 (.q 4 (.q 5 (.q 6 (.m1 3 (.m1 7 (.q 8 (.q 9 .done))))))))))), (32, (.q 0 (.q 1 (.q 2 (.q 3 (.q 4 (.q 6 (.q 7 (.q 8 (.q 9 (.q 10 (.m1 5 (.m1 11 (.q 12 (.q 13 .done))))))))))))))), (34, (.q 0 (.q 1 (.q 2 (.q 3 (.q 4 (.q 6 (.q 7 (.q 8 (.q 9 (.q 10 (.m1 5 (.m1 11 (.q 12 (.q 13 .done))))))))))))))), (37, (.q 0 (.q 1 (.q 2 (.q 3 (.q 4 (.q 5 (.q 6 (.q 7 (.q 8 (.q 9 (.q 10 (.q 11 (.q 12 (.q 13 (.qc 14 [.one (.i .i64)] (.q 15 (.q 16 (.q 17 (.q 18 (.q 19 (.q 20 (.q 21 (.q 22 (.qc 23 [.one (.i .i64)] (.q 24 (.q 25 (.q 26 (.q 27 (.q 28 (.q 29 (.q 30 (.q 31 (.q 32 (.q 33 (.q 34 (.m1 35 (.q 36 (.q 37 .done))))))))))))))))))))))))))))))))))))))), (43, (.q 0 (.q 1 (.q 2 (.q 3 (.q 5 (.q 6 (.q 7 (.q 8 (.m1 4 (.m1 9 (.q 10 (.q 11 (.q 12 (.q 13 (.q 14 (.q 15 (.qc 16 [.one (.i .i64)] (.q 17 (.q 18 (.q 19 (.q 20 (.q 21 (.q 22 (.q 23 (.m1 24 (.q 25 (.q 26 .done))))))))))))))))))))))))))))]⟩
  [.agg [(.i .i64), (.i .i64)], .one .s] (by kernel_rfl)
  (fun x K h => F37 x.1.1 x.1.2.1 x.2.1 (fun r1 h' => K (.bool r1) h') h)
  (fun x K h => B37 x.1.1 x.1.2.1 x.2.1 (fun r1 h' => K (.bool r1) h') h)
  (by rw [F37_eq]) (fun x K h => by kernel_rfl)

/-- pantry/pantrylaw07.without -/
def B148 (p0 : Sl) (p1 : Int) (Q : Sl → H → Prop) (h : H) : Prop :=
  LoopM (σ := Sl × Int × Unit) (fun self1 z2 h3 =>
  Br (decide (z2.2.1 < ((p0.len : Nat) : Int)))
  (IdxS p0.a p0.len z2.2.1 fun a4 =>
  Ld (.i .i64) h3 ((a4.add (Int.toNat z2.2.1 * 1)).add 0) fun x5 =>
  LetI x5 fun n6 =>
  Br (n6 != p1)
  (Nw h3 #[(.int .i64 n6)] 3 fun a7 h8 =>
  App Try.prog ⟨none, 3, 1, 8⟩ h8 z2.1 ⟨(some a7), 1, 1⟩ fun s9 h10 =>
  self1 (s9, (IntKind.wrap .i64 (z2.2.1 + 1)), ()) h10)
  (self1 (z2.1, (IntKind.wrap .i64 (z2.2.1 + 1)), ()) h3))
  (Q z2.1 h3)) (⟨none, 0, 0⟩, 0, ()) h
noncomputable def F148 := Seal @B148
theorem F148_eq : @F148 = @B148 := Seal_eq _
noncomputable def E148 : Ent Try.prog := mkEnt tabOk 148 Try.f148 (Try.f148.body.getD .skip) Try.func148 (by kernel_rfl)
  []
  ⟨[], [(3, [(5, .one .s), (10, .one (.i .i64))])], []⟩
  [.one .s, .one (.i .i64)] (by kernel_rfl)
  (fun x K h => F148 x.1 x.2.1 (fun r1 h' => K (.slice r1.a r1.len r1.cap) h') h)
  (fun x K h => B148 x.1 x.2.1 (fun r1 h' => K (.slice r1.a r1.len r1.cap) h') h)
  (by rw [F148_eq]) (fun x K h => by kernel_rfl)

end Go.Proofs.Ytfijchofplkcoaa
