/-
  PRINTED BY wip/tools/emit.py: what each Go function comes to, as a predicate over the heap (the kernel holds each against the translated program).
-/
import Derived.Test.YtfijchofplkcoaaGh
import Derived.Test.YtfijchofplkcoaaGd
import Derived.Test.YtfijchofplkcoaaGl
set_option linter.unusedVariables false
set_option maxRecDepth 100000
namespace Go.Proofs.Ytfijchofplkcoaa

/-- pantry/pmap.New -/
def B128 (p0 : Option Addr) (p1 : Option Addr) (p2 : Int) (Q : Option Addr → Int → H → Prop) (h : H) : Prop :=
  F93 p0 (fun r1 h2 =>
  Br (r1 == 0)
  (Q none 1 h2)
  (F76 p1 1 p2 0 (fun r3 r4 h5 =>
  LetI r3 fun n6 =>
  LetI r4 fun n7 =>
  Br (n7 != 0)
  (LetI n7 fun n8 =>
  Q none n8 h5)
  (F87 p0 n6 (fun r9 h10 =>
  Nw h10 #[(.pointer p0), (.pointer p1), (.int .i64 p2), (.int .i64 n6), (.int .i64 1)] 195 fun a11 h12 =>
  Q (some a11) 0 h12) h5)) h2)) h
noncomputable def F128 := Seal @B128
theorem F128_eq : @F128 = @B128 := Seal_eq _
noncomputable def E128 : Ent Try.prog := mkEnt tabOk 128 Try.f128 (Try.f128.body.getD .skip) Try.func128 (by kernel_rfl)
  [E93, E76, E87]
  ⟨[], [], []⟩
  [.one .p, .one .p, .one (.i .i64)] (by kernel_rfl)
  (fun x K h => F128 x.1 x.2.1 x.2.2.1 (fun r1 r2 h' => K (.tuple #[(.pointer r1), (.int .i64 r2)]) h') h)
  (fun x K h => B128 x.1 x.2.1 x.2.2.1 (fun r1 r2 h' => K (.tuple #[(.pointer r1), (.int .i64 r2)]) h') h)
  (by rw [F128_eq]) (fun x K h => by kernel_rfl)

/-- (*pantry/pmap.Map).made -/
def B188 (p0 : Option Addr) (Q : Bool → H → Prop) (h : H) : Prop :=
  Br (!(Option.isNone p0))
  (NilP p0 fun a1 =>
  Ld (.i .i64) h ((a1.add 4).add 0) fun x2 =>
  Q (decide (x2 > 0)) h)
  (Q false h)
noncomputable def F188 := Seal @B188
theorem F188_eq : @F188 = @B188 := Seal_eq _
noncomputable def E188 : Ent Try.prog := mkEnt tabOk 188 Try.f188 (Try.f188.body.getD .skip) Try.func188 (by kernel_rfl)
  []
  ⟨[], [], []⟩
  [.one .p] (by kernel_rfl)
  (fun x K h => F188 x.1 (fun r1 h' => K (.bool r1) h') h)
  (fun x K h => B188 x.1 (fun r1 h' => K (.bool r1) h') h)
  (by rw [F188_eq]) (fun x K h => by kernel_rfl)

/-- (*pantry/pmap.Map).Tables -/
def B132 (p0 : Option Addr) (Q : Int → H → Prop) (h : H) : Prop :=
  F188 p0 (fun r1 h2 =>
  Br (!r1)
  (Q 0 h2)
  (NilP p0 fun a3 =>
  Ld (.i .i64) h2 ((a3.add 4).add 0) fun x4 =>
  LetI x4 fun n5 =>
  Q n5 h2)) h
noncomputable def F132 := Seal @B132
theorem F132_eq : @F132 = @B132 := Seal_eq _
noncomputable def E132 : Ent Try.prog := mkEnt tabOk 132 Try.f132 (Try.f132.body.getD .skip) Try.func132 (by kernel_rfl)
  [E188]
  ⟨[], [], []⟩
  [.one .p] (by kernel_rfl)
  (fun x K h => F132 x.1 (fun r1 h' => K (.int .i64 r1) h') h)
  (fun x K h => B132 x.1 (fun r1 h' => K (.int .i64 r1) h') h)
  (by rw [F132_eq]) (fun x K h => by kernel_rfl)

/-- (*pantry/pmap.Map).below -/
def B189 (p0 : Option Addr) (p1 : Int) (p2 : Int) (Q : Int → Bool → H → Prop) (h : H) : Prop :=
  NilP p0 fun a1 =>
  Ld .p h ((a1.add 0).add 0) fun x2 =>
  F83 x2 p1 p2 (fun r3 r4 h5 =>
  LetI r3 fun n6 =>
  F40 n6 (fun r7 r8 h9 =>
  Nw h9 (zeroC Try.prog 25) 25 fun a10 h11 =>
  St h11 (a10.add 0) (.int .i64 r7) fun h12 =>
  St h12 (a10.add 1) (.int .i64 r8) fun h13 =>
  Ld (.i .i64) h13 ((a10.add 1).add 0) fun x14 =>
  Ld (.i .i64) h13 (a10.add 0) fun x15 =>
  Ld (.i .i64) h13 (a10.add 1) fun x16 =>
  F53 x15 x16 (fun r17 h18 =>
  (hcell h18 ((a10.add 1).add 0) = some (.int .i64 x14)) ∧
  Br (r17 == 1)
  (Ld (.i .i64) h18 ((a10.add 1).add 0) fun x19 =>
  NilP p0 fun a20 =>
  Ld .p h18 ((a20.add 0).add 0) fun x21 =>
  QC [.one (.i .i64)] h18 (fun K' h' => F93 x21 (fun r23 h'' => K' (.int .i64 r23) h'') h') fun x22 =>
  LetI x14 fun n24 =>
  Q n24 (decide (x19 < x22.1)) h18)
  (LetI x14 fun n25 =>
  Q n25 false h18)) h13) h5) h
noncomputable def F189 := Seal @B189
theorem F189_eq : @F189 = @B189 := Seal_eq _
noncomputable def E189 : Ent Try.prog := mkEnt tabOk 189 Try.f189 (Try.f189.body.getD .skip) Try.func189 (by kernel_rfl)
  [E83, E40, E53, E93]
  ⟨[], [], [(3, (.q 0 (.q 1 (.q 2 (.m1 3 (.q 4 (.q 5 (.q 6 (.q 7 (.q 8 (.q 9 (.q 10 (.q 11 (.qc 12 [.one (.i .i64)] (.q 13 (.q 14 (.q 15 (.q 16 .done))))))))))))))))))]⟩
  [.one .p, .one (.i .i64), .one (.i .i64)] (by kernel_rfl)
  (fun x K h => F189 x.1 x.2.1 x.2.2.1 (fun r1 r2 h' => K (.tuple #[(.int .i64 r1), (.bool r2)]) h') h)
  (fun x K h => B189 x.1 x.2.1 x.2.2.1 (fun r1 r2 h' => K (.tuple #[(.int .i64 r1), (.bool r2)]) h') h)
  (by rw [F189_eq]) (fun x K h => by kernel_rfl)

/-- (*pantry/pmap.Map).give -/
def B191 (p0 : Option Addr) (p1 : Int) (p2 : Int) (Q : H → Prop) (h : H) : Prop :=
  F189 p0 p1 p2 (fun r1 r2 h3 =>
  LetI r1 fun n4 =>
  NilP p0 fun a5 =>
  Ld .p h3 ((a5.add 1).add 0) fun x6 =>
  F77 x6 n4 (fun r7 h8 =>
  NilP p0 fun a9 =>
  Ld .p h8 ((a9.add 0).add 0) fun x10 =>
  F82 x10 p1 p2 0 (fun r11 h12 =>
  NilP p0 fun a13 =>
  Ld (.i .i64) h12 ((a13.add 4).add 0) fun x14 =>
  NilP p0 fun a15 =>
  St h12 ((a15.add 4).add 0) (.int .i64 (IntKind.wrap .i64 (x14 - 1))) fun h16 =>
  Q  h16) h8) h3) h
noncomputable def F191 := Seal @B191
theorem F191_eq : @F191 = @B191 := Seal_eq _
noncomputable def E191 : Ent Try.prog := mkEnt tabOk 191 Try.f191 (Try.f191.body.getD .skip) Try.func191 (by kernel_rfl)
  [E189, E77, E82]
  ⟨[], [], []⟩
  [.one .p, .one (.i .i64), .one (.i .i64)] (by kernel_rfl)
  (fun x K h => F191 x.1 x.2.1 x.2.2.1 (fun  h' => K (.tuple #[]) h') h)
  (fun x K h => B191 x.1 x.2.1 x.2.2.1 (fun  h' => K (.tuple #[]) h') h)
  (by rw [F191_eq]) (fun x K h => by kernel_rfl)

/-- (*pantry/pmap.Map).Enter$1 -/
def B190 (p0 : Addr) (p1 : Addr) (p2 : Addr) (Q : H → Prop) (h : H) : Prop :=
  Ld .p h (p0.add 0) fun x1 =>
  Ld (.i .i64) h (p1.add 0) fun x2 =>
  Ld (.i .i64) h (p2.add 0) fun x3 =>
  F191 x1 x2 x3 (fun  h4 =>
  Q  h4) h
noncomputable def F190 := Seal @B190
theorem F190_eq : @F190 = @B190 := Seal_eq _
noncomputable def E190 : Ent Try.prog := mkEnt tabOk 190 Try.f190 (Try.f190.body.getD .skip) Try.func190 (by kernel_rfl)
  [E191]
  ⟨[], [], []⟩
  [.one .a, .one .a, .one .a] (by kernel_rfl)
  (fun x K h => F190 x.1 x.2.1 x.2.2.1 (fun  h' => K (.tuple #[]) h') h)
  (fun x K h => B190 x.1 x.2.1 x.2.2.1 (fun  h' => K (.tuple #[]) h') h)
  (by rw [F190_eq]) (fun x K h => by kernel_rfl)

/-- (*pantry/pmap.Map).Enter -/
def B130 (p0 : Option Addr) (p1 : Int) (p2 : Int) (p3 : Int) (Q : Int → H → Prop) (h : H) : Prop :=
  Nw h #[(.pointer p0)] 167 fun a1 h2 =>
  JoinM (σ := Unit) (fun J3 =>
  Ld .p h2 (a1.add 0) fun x6 =>
  F188 x6 (fun r7 h8 =>
  Br (!r7)
  (Q 1 h8)
  (Br (decide (p1 < 0))
  (Q 2 h8)
  (Br (decide (p1 ≥ 67108864))
  (Q 2 h8)
  (Br (decide (p3 < 1))
  (Q 2 h8)
  (Br (decide (p3 > 7))
  (Q 2 h8)
  (Br (decide (p2 < 0))
  (Q 2 h8)
  (Ld .p h8 (a1.add 0) fun x9 =>
  NilP x9 fun a10 =>
  Ld .p h8 ((a10.add 0).add 0) fun x11 =>
  F93 x11 (fun r12 h13 =>
  Br (decide (p2 ≥ r12))
  (Q 2 h13)
  (J3 (()) h13)) h8))))))) h2)
  (fun y4 h5 =>
  Ld .p h5 (a1.add 0) fun x14 =>
  NilP x14 fun a15 =>
  Ld (.i .i64) h5 ((a15.add 3).add 0) fun x16 =>
  LetI x16 fun n17 =>
  LoopM (σ := Int × Sl × Int × Unit) (fun self18 z19 h20 =>
  Br (decide (z19.2.2.1 > 0))
  (F44 p1 z19.2.2.1 (fun r21 h22 =>
  Nw h22 (zeroC Try.prog 3) 3 fun a23 h24 =>
  Nw h24 (zeroC Try.prog 3) 3 fun a25 h26 =>
  St h26 (a23.add 0) (.int .i64 z19.1) fun h27 =>
  St h27 (a25.add 0) (.int .i64 r21) fun h28 =>
  Ld .p h28 (a1.add 0) fun x29 =>
  Ld (.i .i64) h28 (a23.add 0) fun x30 =>
  Ld (.i .i64) h28 (a25.add 0) fun x31 =>
  F189 x29 x30 x31 (fun r32 r33 h34 =>
  LetI r32 fun n35 =>
  Br (!r33)
  (Ld .p h34 (a1.add 0) fun x36 =>
  NilP x36 fun a37 =>
  Ld .p h34 ((a37.add 1).add 0) fun x38 =>
  Ld .p h34 (a1.add 0) fun x39 =>
  NilP x39 fun a40 =>
  Ld (.i .i64) h34 ((a40.add 2).add 0) fun x41 =>
  F76 x38 1 x41 (IntKind.wrap .i64 (3 - z19.2.2.1)) (fun r42 r43 h44 =>
  LetI r42 fun n45 =>
  LetI r43 fun n46 =>
  Br (n46 != 0)
  (LoopM (σ := Int × Unit) (fun self47 z48 h49 =>
  Br (decide (z48.1 < ((z19.2.1.len : Nat) : Int)))
  (IdxS z19.2.1.a z19.2.1.len z48.1 fun a50 =>
  Ld .f h49 ((a50.add (Int.toNat z48.1 * 1)).add 0) fun x51 =>
  AsgV x51 h49 fun v52 h53 =>
  CallV [E188, E93, E44, E189, E76, E190, E87, E41, E82, E58] v52 [] h53 (fun r54 h55 =>
  self47 ((IntKind.wrap .i64 (z48.1 + 1)), ()) h55))
  (LetI n46 fun n56 =>
  Q n56 h49)) (0, ()) h44)
  (LetI n45 fun n57 =>
  Ld .p h44 (a1.add 0) fun x58 =>
  NilP x58 fun a59 =>
  Ld .p h44 ((a59.add 0).add 0) fun x60 =>
  F87 x60 n45 (fun r61 h62 =>
  Ld .p h62 (a1.add 0) fun x63 =>
  NilP x63 fun a64 =>
  Ld .p h62 ((a64.add 0).add 0) fun x65 =>
  Ld (.i .i64) h62 (a23.add 0) fun x66 =>
  Ld (.i .i64) h62 (a25.add 0) fun x67 =>
  F41 1 n45 (fun r68 h69 =>
  (hcell h69 (a25.add 0) = some (.int .i64 x67)) ∧
  (hcell h69 (a23.add 0) = some (.int .i64 x66)) ∧
  (hcell h69 ((a64.add 0).add 0) = some (.pointer x65)) ∧
  (hcell h69 (a1.add 0) = some (.pointer x63)) ∧
  F82 x65 x66 x67 r68 (fun r70 h71 =>
  Ld .p h71 (a1.add 0) fun x72 =>
  NilP x72 fun a73 =>
  Ld (.i .i64) h71 ((a73.add 4).add 0) fun x74 =>
  NilP x72 fun a75 =>
  St h71 ((a75.add 4).add 0) (.int .i64 (IntKind.wrap .i64 (x74 + 1))) fun h76 =>
  Nw h76 #[(.func (.func 190) #[] #[(.pointer (some a1)), (.pointer (some a23)), (.pointer (some a25))])] 1 fun a77 h78 =>
  App Try.prog ⟨none, 1, 1, 8⟩ h78 z19.2.1 ⟨(some a77), 1, 1⟩ fun s79 h80 =>
  LetI n57 fun n81 =>
  LetI (IntKind.wrap .i64 (z19.2.2.1 - 1)) fun n82 =>
  self18 (n81, s79, n82, ()) h80) h69) h62) h44)) h34)
  (LetI n35 fun n83 =>
  LetI (IntKind.wrap .i64 (z19.2.2.1 - 1)) fun n84 =>
  self18 (n83, z19.2.1, n84, ()) h34)) h28) h20)
  (Ld .p h20 (a1.add 0) fun x85 =>
  NilP x85 fun a86 =>
  Ld .p h20 ((a86.add 0).add 0) fun x87 =>
  QC [.one (.i .i64)] h20 (fun K' h' => F44 p1 0 (fun r89 h'' => K' (.int .i64 r89) h'') h') fun x88 =>
  F58 p3 true (fun r90 h91 =>
  (hcell h91 ((a86.add 0).add 0) = some (.pointer x87)) ∧
  (hcell h91 (a1.add 0) = some (.pointer x85)) ∧
  F41 r90 p2 (fun r92 h93 =>
  (hcell h93 ((a86.add 0).add 0) = some (.pointer x87)) ∧
  (hcell h93 (a1.add 0) = some (.pointer x85)) ∧
  F82 x87 z19.1 x88.1 r92 (fun r94 h95 =>
  Q 0 h95) h93) h91) h20)) (n17, ⟨none, 0, 0⟩, 2, ()) h5)
noncomputable def F130 := Seal @B130
theorem F130_eq : @F130 = @B130 := Seal_eq _
noncomputable def E130 : Ent Try.prog := mkEnt tabOk 130 Try.f130 (Try.f130.body.getD .skip) Try.func130 (by kernel_rfl)
  [E188, E93, E44, E189, E76, E190, E87, E41, E82, E58]
  ⟨[(5, [])], [(8, [(9, .one (.i .i64)), (10, .one .s), (11, .one (.i .i64))]), (16, [(91, .one (.i .i64))])], [(13, (.q 0 (.q 1 (.q 2 (.q 3 (.q 4 (.q 5 (.q 6 (.q 7 (.q 8 (.q 9 (.m1 10 (.q 11 (.q 12 (.q 13 (.q 14 (.q 15 .done))))))))))))))))), (23, (.q 0 (.q 1 (.q 2 (.q 3 (.q 4 (.q 5 (.q 6 (.q 7 (.m1 8 (.m1 9 .done))))))))))), (27, (.q 0 (.q 1 (.q 2 (.q 3 (.q 4 (.q 5 (.qc 6 [.one (.i .i64)] (.q 7 (.q 9 (.m1 8 (.q 10 (.m1 11 (.m1 12 .done))))))))))))))]⟩
  [.one .p, .one (.i .i64), .one (.i .i64), .one (.i .i64)] (by kernel_rfl)
  (fun x K h => F130 x.1 x.2.1 x.2.2.1 x.2.2.2.1 (fun r1 h' => K (.int .i64 r1) h') h)
  (fun x K h => B130 x.1 x.2.1 x.2.2.1 x.2.2.2.1 (fun r1 h' => K (.int .i64 r1) h') h)
  (by rw [F130_eq]) (fun x K h => by kernel_rfl)

/-- (*pantry/pmap.Map).Find -/
def B131 (p0 : Option Addr) (p1 : Int) (Q : Int → Int → Bool → H → Prop) (h : H) : Prop :=
  Nw h (zeroC Try.prog 25) 25 fun a1 h2 =>
  F188 p0 (fun r3 h4 =>
  Br (!r3)
  (St h4 (a1.add 0) (.int .i64 0) fun h5 =>
  St h5 (a1.add 1) (.int .i64 0) fun h6 =>
  Ld (.i .i64) h6 (a1.add 0) fun x7 =>
  Ld (.i .i64) h6 (a1.add 1) fun x8 =>
  Q x7 x8 false h6)
  (NilP p0 fun a9 =>
  Ld .p h4 ((a9.add 0).add 0) fun x10 =>
  NilP p0 fun a11 =>
  Ld (.i .i64) h4 ((a11.add 3).add 0) fun x12 =>
  (F122 x10 x12 p1 (fun r13 r14 r15 h16 =>
  Nw h16 (zeroC Try.prog 25) 25 fun a17 h18 =>
  St h18 (a17.add 0) (.int .i64 r13) fun h19 =>
  St h19 (a17.add 1) (.int .i64 r14) fun h20 =>
  Br (!r15)
  (St h20 (a1.add 0) (.int .i64 0) fun h21 =>
  St h21 (a1.add 1) (.int .i64 0) fun h22 =>
  Ld (.i .i64) h22 (a1.add 0) fun x23 =>
  Ld (.i .i64) h22 (a1.add 1) fun x24 =>
  Q x23 x24 false h22)
  (Ld (.i .i64) h20 (a17.add 0) fun x25 =>
  Ld (.i .i64) h20 (a17.add 1) fun x26 =>
  F53 x25 x26 (fun r27 h28 =>
  Br (r27 != 2)
  (St h28 (a1.add 0) (.int .i64 0) fun h29 =>
  St h29 (a1.add 1) (.int .i64 0) fun h30 =>
  Ld (.i .i64) h30 (a1.add 0) fun x31 =>
  Ld (.i .i64) h30 (a1.add 1) fun x32 =>
  Q x31 x32 false h30)
  (Ld (.i .i64) h28 (a17.add 0) fun x33 =>
  Ld (.i .i64) h28 (a17.add 1) fun x34 =>
  St h28 (a1.add 0) (.int .i64 x33) fun h35 =>
  St h35 (a1.add 1) (.int .i64 x34) fun h36 =>
  Ld (.i .i64) h36 (a1.add 0) fun x37 =>
  Ld (.i .i64) h36 (a1.add 1) fun x38 =>
  Q x37 x38 true h36)) h20)) h4) ∧
  (Nw h4 (zeroC Try.prog 25) 25 fun a39 h40 =>
  (hcell h40 ((a11.add 3).add 0) = some (.int .i64 x12)) ∧
  (hcell h40 ((a9.add 0).add 0) = some (.pointer x10)) ∧
  F122 x10 x12 p1 (fun r41 r42 r43 h44 =>
  St h44 (a39.add 0) (.int .i64 r41) fun h45 =>
  St h45 (a39.add 1) (.int .i64 r42) fun h46 =>
  Br (!r43)
  (St h46 (a1.add 0) (.int .i64 0) fun h47 =>
  St h47 (a1.add 1) (.int .i64 0) fun h48 =>
  Ld (.i .i64) h48 (a1.add 0) fun x49 =>
  Ld (.i .i64) h48 (a1.add 1) fun x50 =>
  Q x49 x50 false h48)
  (Ld (.i .i64) h46 (a39.add 0) fun x51 =>
  Ld (.i .i64) h46 (a39.add 1) fun x52 =>
  F53 x51 x52 (fun r53 h54 =>
  Br (r53 != 2)
  (St h54 (a1.add 0) (.int .i64 0) fun h55 =>
  St h55 (a1.add 1) (.int .i64 0) fun h56 =>
  Ld (.i .i64) h56 (a1.add 0) fun x57 =>
  Ld (.i .i64) h56 (a1.add 1) fun x58 =>
  Q x57 x58 false h56)
  (Ld (.i .i64) h54 (a39.add 0) fun x59 =>
  Ld (.i .i64) h54 (a39.add 1) fun x60 =>
  St h54 (a1.add 0) (.int .i64 x59) fun h61 =>
  St h61 (a1.add 1) (.int .i64 x60) fun h62 =>
  Ld (.i .i64) h62 (a1.add 0) fun x63 =>
  Ld (.i .i64) h62 (a1.add 1) fun x64 =>
  Q x63 x64 true h62)) h46)) h40))) h2
noncomputable def F131 := Seal @B131
theorem F131_eq : @F131 = @B131 := Seal_eq _
noncomputable def E131 : Ent Try.prog := mkEnt tabOk 131 Try.f131 (Try.f131.body.getD .skip) Try.func131 (by kernel_rfl)
  [E188, E122, E53]
  ⟨[], [], [(3, (.q 0 (.q 1 (.q 2 (.q 3 (.q 4 (.q 5 (.q 6 (.q 7 (.q 8 (.m2 9 13 (.q 10 (.q 11 (.q 12 (.m1 13 (.m1 14 (.q 15 .done)))))) (.m1 9 (.q 10 (.q 11 (.q 12 (.m1 14 (.q 15 .done)))))))))))))))))]⟩
  [.one .p, .one (.i .i64)] (by kernel_rfl)
  (fun x K h => F131 x.1 x.2.1 (fun r1 r2 r3 h' => K (.tuple #[(.agg #[(.int .i64 r1), (.int .i64 r2)]), (.bool r3)]) h') h)
  (fun x K h => B131 x.1 x.2.1 (fun r1 r2 r3 h' => K (.tuple #[(.agg #[(.int .i64 r1), (.int .i64 r2)]), (.bool r3)]) h') h)
  (by rw [F131_eq]) (fun x K h => by kernel_rfl)

/-- (*pantry/pmap.Map).Remove$1 -/
def B193 (p0 : Int) (p1 : Int) (Q : Int → Int → H → Prop) (h : H) : Prop :=
  Nw h #[(.int .i64 p0), (.int .i64 p1)] 25 fun a1 h2 =>
  Nw h2 (zeroC Try.prog 25) 25 fun a3 h4 =>
  St h4 (a3.add 0) (.int .i64 0) fun h5 =>
  St h5 (a3.add 1) (.int .i64 0) fun h6 =>
  Ld (.i .i64) h6 (a3.add 0) fun x7 =>
  Ld (.i .i64) h6 (a3.add 1) fun x8 =>
  Q x7 x8 h6
noncomputable def F193 := Seal @B193
theorem F193_eq : @F193 = @B193 := Seal_eq _
noncomputable def E193 : Ent Try.prog := mkEnt tabOk 193 Try.f193 (Try.f193.body.getD .skip) Try.func193 (by kernel_rfl)
  []
  ⟨[], [], []⟩
  [.agg [(.i .i64), (.i .i64)]] (by kernel_rfl)
  (fun x K h => F193 x.1.1 x.1.2.1 (fun r1 r2 h' => K (.agg #[(.int .i64 r1), (.int .i64 r2)]) h') h)
  (fun x K h => B193 x.1.1 x.1.2.1 (fun r1 r2 h' => K (.agg #[(.int .i64 r1), (.int .i64 r2)]) h') h)
  (by rw [F193_eq]) (fun x K h => by kernel_rfl)

/-- (*pantry/pmap.Map).bare -/
def B206 (p0 : Option Addr) (p1 : Int) (Q : Bool → H → Prop) (h : H) : Prop :=
  LoopM (σ := Int × Unit) (fun self1 z2 h3 =>
  Br (decide (z2.1 < 512))
  (LetI z2.1 fun n4 =>
  NilP p0 fun a5 =>
  Ld .p h3 ((a5.add 0).add 0) fun x6 =>
  F83 x6 p1 n4 (fun r7 r8 h9 =>
  LetI r7 fun n10 =>
  Br (n10 != 0)
  (Q false h9)
  (self1 ((IntKind.wrap .i64 (z2.1 + 1)), ()) h9)) h3)
  (Q true h3)) (0, ()) h
noncomputable def F206 := Seal @B206
theorem F206_eq : @F206 = @B206 := Seal_eq _
noncomputable def E206 : Ent Try.prog := mkEnt tabOk 206 Try.f206 (Try.f206.body.getD .skip) Try.func206 (by kernel_rfl)
  [E83]
  ⟨[], [(2, [(8, .one (.i .i64))])], []⟩
  [.one .p, .one (.i .i64)] (by kernel_rfl)
  (fun x K h => F206 x.1 x.2.1 (fun r1 h' => K (.bool r1) h') h)
  (fun x K h => B206 x.1 x.2.1 (fun r1 h' => K (.bool r1) h') h)
  (by rw [F206_eq]) (fun x K h => by kernel_rfl)

/-- (*pantry/pmap.Map).tidy -/
def B204 (p0 : Option Addr) (p1 : Int) (Q : H → Prop) (h : H) : Prop :=
  F44 p1 2 (fun r1 h2 =>
  F44 p1 1 (fun r3 h4 =>
  LetI r1 fun n5 =>
  LetI r3 fun n6 =>
  NilP p0 fun a7 =>
  Ld (.i .i64) h4 ((a7.add 3).add 0) fun x8 =>
  F189 p0 x8 n5 (fun r9 r10 h11 =>
  LetI r9 fun n12 =>
  Br (!r10)
  (Q  h11)
  (JoinM (σ := Unit) (fun J13 =>
  F189 p0 n12 n6 (fun r16 r17 h18 =>
  LetI r16 fun n19 =>
  Br r17
  (F206 p0 n19 (fun r20 h21 =>
  Br r20
  (F191 p0 n12 n6 (fun  h22 =>
  J13 (()) h22) h21)
  (J13 (()) h21)) h18)
  (J13 (()) h18)) h11)
  (fun y14 h15 =>
  F206 p0 n12 (fun r23 h24 =>
  Br r23
  (NilP p0 fun a25 =>
  Ld (.i .i64) h24 ((a25.add 3).add 0) fun x26 =>
  F191 p0 x26 n5 (fun  h27 =>
  Q  h27) h24)
  (Q  h24)) h15))) h4) h2) h
noncomputable def F204 := Seal @B204
theorem F204_eq : @F204 = @B204 := Seal_eq _
noncomputable def E204 : Ent Try.prog := mkEnt tabOk 204 Try.f204 (Try.f204.body.getD .skip) Try.func204 (by kernel_rfl)
  [E44, E189, E206, E191]
  ⟨[(6, [])], [], []⟩
  [.one .p, .one (.i .i64)] (by kernel_rfl)
  (fun x K h => F204 x.1 x.2.1 (fun  h' => K (.tuple #[]) h') h)
  (fun x K h => B204 x.1 x.2.1 (fun  h' => K (.tuple #[]) h') h)
  (by rw [F204_eq]) (fun x K h => by kernel_rfl)

/-- (*pantry/pmap.Map).change -/
def B192Rem (p0 : Option Addr) (p1 : Int) (Q : Bool → H → Prop) (h : H) : Prop :=
  F131 p0 p1 (fun r1 r2 r3 h4 =>
  Nw h4 (zeroC Try.prog 25) 25 fun a5 h6 =>
  St h6 (a5.add 0) (.int .i64 r1) fun h7 =>
  St h7 (a5.add 1) (.int .i64 r2) fun h8 =>
  Br (!r3)
  (Q false h8)
  (NilP p0 fun a9 =>
  Ld .p h8 ((a9.add 0).add 0) fun x10 =>
  NilP p0 fun a11 =>
  Ld (.i .i64) h8 ((a11.add 3).add 0) fun x12 =>
  F120 x10 x12 p1 (fun r13 r14 r15 h16 =>
  LetI r13 fun n17 =>
  LetI r14 fun n18 =>
  Ld (.i .i64) h16 (a5.add 0) fun x19 =>
  Ld (.i .i64) h16 (a5.add 1) fun x20 =>
  F193 x19 x20 (fun r21 r22 h23 =>
  F41 r21 r22 (fun r24 h25 =>
  LetI r24 fun n26 =>
  NilP p0 fun a27 =>
  Ld .p h25 ((a27.add 0).add 0) fun x28 =>
  F82 x28 n17 n18 n26 (fun r29 h30 =>
  Br (n26 == 0)
  (F204 p0 p1 (fun  h31 =>
  Q true h31) h30)
  (Q true h30)) h25) h23) h16) h8)) h
noncomputable def F192Rem := Seal @B192Rem
theorem F192Rem_eq : @F192Rem = @B192Rem := Seal_eq _
noncomputable def E192Rem : Ent Try.prog := mkEnt tabOk 192 Try.f192 (Try.f192.body.getD .skip) Try.func192 (by kernel_rfl)
  [E131, E120, E193, E41, E82, E204]
  ⟨[], [], [(4, (.q 0 (.q 1 (.q 2 (.q 3 (.q 4 (.q 5 (.q 6 (.q 7 (.q 8 (.m1 9 (.q 10 (.q 11 (.q 12 (.q 13 (.q 14 (.q 15 (.q 16 .done))))))))))))))))))]⟩
  [.one .p, .one (.i .i64), .fn 193 []] (by kernel_rfl)
  (fun x K h => F192Rem x.1 x.2.1 (fun r1 h' => K (.bool r1) h') h)
  (fun x K h => B192Rem x.1 x.2.1 (fun r1 h' => K (.bool r1) h') h)
  (by rw [F192Rem_eq]) (fun x K h => by kernel_rfl)

/-- (*pantry/pmap.Map).Remove -/
def B134 (p0 : Option Addr) (p1 : Int) (Q : Bool → H → Prop) (h : H) : Prop :=
  F192Rem p0 p1 (fun r1 h2 =>
  Q r1 h2) h
noncomputable def F134 := Seal @B134
theorem F134_eq : @F134 = @B134 := Seal_eq _
noncomputable def E134 : Ent Try.prog := mkEnt tabOk 134 Try.f134 (Try.f134.body.getD .skip) Try.func134 (by kernel_rfl)
  [E192Rem]
  ⟨[], [], []⟩
  [.one .p, .one (.i .i64)] (by kernel_rfl)
  (fun x K h => F134 x.1 x.2.1 (fun r1 h' => K (.bool r1) h') h)
  (fun x K h => B134 x.1 x.2.1 (fun r1 h' => K (.bool r1) h') h)
  (by rw [F134_eq]) (fun x K h => by kernel_rfl)

/-- (*pantry/pmap.Map).Root -/
def B136 (p0 : Option Addr) (Q : Int → H → Prop) (h : H) : Prop :=
  F188 p0 (fun r1 h2 =>
  Br (!r1)
  (Q (-1) h2)
  (NilP p0 fun a3 =>
  Ld (.i .i64) h2 ((a3.add 3).add 0) fun x4 =>
  LetI x4 fun n5 =>
  Q n5 h2)) h
noncomputable def F136 := Seal @B136
theorem F136_eq : @F136 = @B136 := Seal_eq _
noncomputable def E136 : Ent Try.prog := mkEnt tabOk 136 Try.f136 (Try.f136.body.getD .skip) Try.func136 (by kernel_rfl)
  [E188]
  ⟨[], [], []⟩
  [.one .p] (by kernel_rfl)
  (fun x K h => F136 x.1 (fun r1 h' => K (.int .i64 r1) h') h)
  (fun x K h => B136 x.1 (fun r1 h' => K (.int .i64 r1) h') h)
  (by rw [F136_eq]) (fun x K h => by kernel_rfl)

/-- (*pantry/pmap.Map).Protect$1 -/
def B194 (p0 : Int) (p1 : Int) (p2 : Addr) (Q : Int → Int → H → Prop) (h : H) : Prop :=
  Nw h #[(.int .i64 p0), (.int .i64 p1)] 25 fun a1 h2 =>
  Nw h2 (zeroC Try.prog 25) 25 fun a3 h4 =>
  Ld (.i .i64) h4 (p2.add 0) fun x5 =>
  Ld (.i .i64) h4 ((a1.add 0).add 0) fun x6 =>
  Ld (.i .i64) h4 ((a1.add 1).add 0) fun x7 =>
  St h4 (a3.add 0) (.int .i64 (bOr .i64 x5 (bAnd .i64 x6 192))) fun h8 =>
  St h8 (a3.add 1) (.int .i64 x7) fun h9 =>
  Ld (.i .i64) h9 (a3.add 0) fun x10 =>
  Ld (.i .i64) h9 (a3.add 1) fun x11 =>
  Q x10 x11 h9
noncomputable def F194 := Seal @B194
theorem F194_eq : @F194 = @B194 := Seal_eq _
noncomputable def E194 : Ent Try.prog := mkEnt tabOk 194 Try.f194 (Try.f194.body.getD .skip) Try.func194 (by kernel_rfl)
  []
  ⟨[], [], []⟩
  [.agg [(.i .i64), (.i .i64)], .one .a] (by kernel_rfl)
  (fun x K h => F194 x.1.1 x.1.2.1 x.2.1 (fun r1 r2 h' => K (.agg #[(.int .i64 r1), (.int .i64 r2)]) h') h)
  (fun x K h => B194 x.1.1 x.1.2.1 x.2.1 (fun r1 r2 h' => K (.agg #[(.int .i64 r1), (.int .i64 r2)]) h') h)
  (by rw [F194_eq]) (fun x K h => by kernel_rfl)

/-- (*pantry/pmap.Map).change -/
def B192Pro (p0 : Option Addr) (p1 : Int) (p2 : Addr) (Q : Bool → H → Prop) (h : H) : Prop :=
  F131 p0 p1 (fun r1 r2 r3 h4 =>
  Nw h4 (zeroC Try.prog 25) 25 fun a5 h6 =>
  St h6 (a5.add 0) (.int .i64 r1) fun h7 =>
  St h7 (a5.add 1) (.int .i64 r2) fun h8 =>
  Br (!r3)
  (Q false h8)
  (NilP p0 fun a9 =>
  Ld .p h8 ((a9.add 0).add 0) fun x10 =>
  NilP p0 fun a11 =>
  Ld (.i .i64) h8 ((a11.add 3).add 0) fun x12 =>
  F120 x10 x12 p1 (fun r13 r14 r15 h16 =>
  LetI r13 fun n17 =>
  LetI r14 fun n18 =>
  Ld (.i .i64) h16 (a5.add 0) fun x19 =>
  Ld (.i .i64) h16 (a5.add 1) fun x20 =>
  F194 x19 x20 p2 (fun r21 r22 h23 =>
  F41 r21 r22 (fun r24 h25 =>
  LetI r24 fun n26 =>
  NilP p0 fun a27 =>
  Ld .p h25 ((a27.add 0).add 0) fun x28 =>
  F82 x28 n17 n18 n26 (fun r29 h30 =>
  Br (n26 == 0)
  (F204 p0 p1 (fun  h31 =>
  Q true h31) h30)
  (Q true h30)) h25) h23) h16) h8)) h
noncomputable def F192Pro := Seal @B192Pro
theorem F192Pro_eq : @F192Pro = @B192Pro := Seal_eq _
noncomputable def E192Pro : Ent Try.prog := mkEnt tabOk 192 Try.f192 (Try.f192.body.getD .skip) Try.func192 (by kernel_rfl)
  [E131, E120, E194, E41, E82, E204]
  ⟨[], [], [(4, (.q 0 (.q 1 (.q 2 (.q 3 (.q 4 (.q 5 (.q 6 (.q 7 (.q 8 (.m1 9 (.q 10 (.q 11 (.q 12 (.q 13 (.q 14 (.q 15 (.q 16 .done))))))))))))))))))]⟩
  [.one .p, .one (.i .i64), .fn 194 [.a]] (by kernel_rfl)
  (fun x K h => F192Pro x.1 x.2.1 x.2.2.1.1 (fun r1 h' => K (.bool r1) h') h)
  (fun x K h => B192Pro x.1 x.2.1 x.2.2.1.1 (fun r1 h' => K (.bool r1) h') h)
  (by rw [F192Pro_eq]) (fun x K h => by kernel_rfl)

/-- (*pantry/pmap.Map).Protect -/
def B137 (p0 : Option Addr) (p1 : Int) (p2 : Int) (Q : Bool → H → Prop) (h : H) : Prop :=
  F58 p2 true (fun r1 h2 =>
  Nw h2 (zeroC Try.prog 3) 3 fun a3 h4 =>
  St h4 (a3.add 0) (.int .i64 r1) fun h5 =>
  Ld (.i .i64) h5 (a3.add 0) fun x6 =>
  Br (x6 == 0)
  (F134 p0 p1 (fun r7 h8 =>
  Q r7 h8) h5)
  (F192Pro p0 p1 a3 (fun r9 h10 =>
  Q r9 h10) h5)) h
noncomputable def F137 := Seal @B137
theorem F137_eq : @F137 = @B137 := Seal_eq _
noncomputable def E137 : Ent Try.prog := mkEnt tabOk 137 Try.f137 (Try.f137.body.getD .skip) Try.func137 (by kernel_rfl)
  [E58, E134, E192Pro]
  ⟨[], [], []⟩
  [.one .p, .one (.i .i64), .one (.i .i64)] (by kernel_rfl)
  (fun x K h => F137 x.1 x.2.1 x.2.2.1 (fun r1 h' => K (.bool r1) h') h)
  (fun x K h => B137 x.1 x.2.1 x.2.2.1 (fun r1 h' => K (.bool r1) h') h)
  (by rw [F137_eq]) (fun x K h => by kernel_rfl)

/-- (*pantry/pmap.Map).Clear$1 -/
def B195 (p0 : Int) (p1 : Int) (p2 : Addr) (p3 : Addr) (Q : Int → Int → H → Prop) (h : H) : Prop :=
  Nw h #[(.int .i64 p0), (.int .i64 p1)] 25 fun a1 h2 =>
  Nw h2 (zeroC Try.prog 25) 25 fun a3 h4 =>
  Ld (.i .i64) h4 ((a1.add 0).add 0) fun x5 =>
  Ld (.i .i64) h4 (p2.add 0) fun x6 =>
  St h4 (p3.add 0) (.int .i64 (bAnd .i64 (bAnd .i64 x5 x6) 192)) fun h7 =>
  Ld (.i .i64) h7 ((a1.add 0).add 0) fun x8 =>
  Ld (.i .i64) h7 (p3.add 0) fun x9 =>
  St h7 ((a1.add 0).add 0) (.int .i64 (bAndNot .i64 x8 x9)) fun h10 =>
  Ld (.i .i64) h10 (a1.add 0) fun x11 =>
  Ld (.i .i64) h10 (a1.add 1) fun x12 =>
  St h10 (a3.add 0) (.int .i64 x11) fun h13 =>
  St h13 (a3.add 1) (.int .i64 x12) fun h14 =>
  Ld (.i .i64) h14 (a3.add 0) fun x15 =>
  Ld (.i .i64) h14 (a3.add 1) fun x16 =>
  Q x15 x16 h14
noncomputable def F195 := Seal @B195
theorem F195_eq : @F195 = @B195 := Seal_eq _
noncomputable def E195 : Ent Try.prog := mkEnt tabOk 195 Try.f195 (Try.f195.body.getD .skip) Try.func195 (by kernel_rfl)
  []
  ⟨[], [], []⟩
  [.agg [(.i .i64), (.i .i64)], .one .a, .one .a] (by kernel_rfl)
  (fun x K h => F195 x.1.1 x.1.2.1 x.2.1 x.2.2.1 (fun r1 r2 h' => K (.agg #[(.int .i64 r1), (.int .i64 r2)]) h') h)
  (fun x K h => B195 x.1.1 x.1.2.1 x.2.1 x.2.2.1 (fun r1 r2 h' => K (.agg #[(.int .i64 r1), (.int .i64 r2)]) h') h)
  (by rw [F195_eq]) (fun x K h => by kernel_rfl)

/-- (*pantry/pmap.Map).change -/
def B192Clr (p0 : Option Addr) (p1 : Int) (p2 : Addr) (p3 : Addr) (Q : Bool → H → Prop) (h : H) : Prop :=
  F131 p0 p1 (fun r1 r2 r3 h4 =>
  Nw h4 (zeroC Try.prog 25) 25 fun a5 h6 =>
  St h6 (a5.add 0) (.int .i64 r1) fun h7 =>
  St h7 (a5.add 1) (.int .i64 r2) fun h8 =>
  Br (!r3)
  (Q false h8)
  (NilP p0 fun a9 =>
  Ld .p h8 ((a9.add 0).add 0) fun x10 =>
  NilP p0 fun a11 =>
  Ld (.i .i64) h8 ((a11.add 3).add 0) fun x12 =>
  F120 x10 x12 p1 (fun r13 r14 r15 h16 =>
  LetI r13 fun n17 =>
  LetI r14 fun n18 =>
  Ld (.i .i64) h16 (a5.add 0) fun x19 =>
  Ld (.i .i64) h16 (a5.add 1) fun x20 =>
  F195 x19 x20 p2 p3 (fun r21 r22 h23 =>
  F41 r21 r22 (fun r24 h25 =>
  LetI r24 fun n26 =>
  NilP p0 fun a27 =>
  Ld .p h25 ((a27.add 0).add 0) fun x28 =>
  F82 x28 n17 n18 n26 (fun r29 h30 =>
  Br (n26 == 0)
  (F204 p0 p1 (fun  h31 =>
  Q true h31) h30)
  (Q true h30)) h25) h23) h16) h8)) h
noncomputable def F192Clr := Seal @B192Clr
theorem F192Clr_eq : @F192Clr = @B192Clr := Seal_eq _
noncomputable def E192Clr : Ent Try.prog := mkEnt tabOk 192 Try.f192 (Try.f192.body.getD .skip) Try.func192 (by kernel_rfl)
  [E131, E120, E195, E41, E82, E204]
  ⟨[], [], [(4, (.q 0 (.q 1 (.q 2 (.q 3 (.q 4 (.q 5 (.q 6 (.q 7 (.q 8 (.m1 9 (.q 10 (.q 11 (.q 12 (.q 13 (.q 14 (.q 15 (.q 16 .done))))))))))))))))))]⟩
  [.one .p, .one (.i .i64), .fn 195 [.a, .a]] (by kernel_rfl)
  (fun x K h => F192Clr x.1 x.2.1 x.2.2.1.1 x.2.2.1.2.1 (fun r1 h' => K (.bool r1) h') h)
  (fun x K h => B192Clr x.1 x.2.1 x.2.2.1.1 x.2.2.1.2.1 (fun r1 h' => K (.bool r1) h') h)
  (by rw [F192Clr_eq]) (fun x K h => by kernel_rfl)

/-- (*pantry/pmap.Map).Clear -/
def B138 (p0 : Option Addr) (p1 : Int) (p2 : Int) (Q : Int → H → Prop) (h : H) : Prop :=
  Nw h #[(.int .i64 p2)] 3 fun a1 h2 =>
  Nw h2 (zeroC Try.prog 3) 3 fun a3 h4 =>
  St h4 (a3.add 0) (.int .i64 0) fun h5 =>
  F192Clr p0 p1 a1 a3 (fun r6 h7 =>
  Ld (.i .i64) h7 (a3.add 0) fun x8 =>
  LetI x8 fun n9 =>
  Q n9 h7) h5
noncomputable def F138 := Seal @B138
theorem F138_eq : @F138 = @B138 := Seal_eq _
noncomputable def E138 : Ent Try.prog := mkEnt tabOk 138 Try.f138 (Try.f138.body.getD .skip) Try.func138 (by kernel_rfl)
  [E192Clr]
  ⟨[], [], []⟩
  [.one .p, .one (.i .i64), .one (.i .i64)] (by kernel_rfl)
  (fun x K h => F138 x.1 x.2.1 x.2.2.1 (fun r1 h' => K (.int .i64 r1) h') h)
  (fun x K h => B138 x.1 x.2.1 x.2.2.1 (fun r1 h' => K (.int .i64 r1) h') h)
  (by rw [F138_eq]) (fun x K h => by kernel_rfl)

/-- (*pantry/pmap.Map).Close -/
def B139 (p0 : Option Addr) (Q : Int → H → Prop) (h : H) : Prop :=
  F188 p0 (fun r1 h2 =>
  Br (!r1)
  (Q 0 h2)
  (NilP p0 fun a3 =>
  Ld (.i .i64) h2 ((a3.add 4).add 0) fun x4 =>
  LetI x4 fun n5 =>
  LoopM (σ := Int × Unit) (fun self6 z7 h8 =>
  Br (decide (z7.1 < 512))
  (LetI z7.1 fun n9 =>
  NilP p0 fun a10 =>
  Ld (.i .i64) h8 ((a10.add 3).add 0) fun x11 =>
  F189 p0 x11 n9 (fun r12 r13 h14 =>
  LetI r12 fun n15 =>
  Br (!r13)
  (self6 ((IntKind.wrap .i64 (z7.1 + 1)), ()) h14)
  (LoopM (σ := Int × Unit) (fun self16 z17 h18 =>
  Br (decide (z17.1 < 512))
  (LetI z17.1 fun n19 =>
  F189 p0 n15 n19 (fun r20 r21 h22 =>
  LetI r20 fun n23 =>
  Br r21
  (F191 p0 n15 n19 (fun  h24 =>
  self16 ((IntKind.wrap .i64 (z17.1 + 1)), ()) h24) h22)
  (self16 ((IntKind.wrap .i64 (z17.1 + 1)), ()) h22)) h18)
  (NilP p0 fun a25 =>
  Ld (.i .i64) h18 ((a25.add 3).add 0) fun x26 =>
  F191 p0 x26 n9 (fun  h27 =>
  self6 ((IntKind.wrap .i64 (z7.1 + 1)), ()) h27) h18)) (0, ()) h14)) h8)
  (NilP p0 fun a28 =>
  Ld .p h8 ((a28.add 1).add 0) fun x29 =>
  NilP p0 fun a30 =>
  Ld (.i .i64) h8 ((a30.add 3).add 0) fun x31 =>
  F77 x29 x31 (fun r32 h33 =>
  NilP p0 fun a34 =>
  St h33 (a34.add 0) (.pointer none) fun h35 =>
  St h35 (a34.add 1) (.pointer none) fun h36 =>
  St h36 (a34.add 2) (.int .i64 0) fun h37 =>
  St h37 (a34.add 3) (.int .i64 0) fun h38 =>
  St h38 (a34.add 4) (.int .i64 0) fun h39 =>
  LetI n5 fun n40 =>
  Q n40 h39) h8)) (0, ()) h2)) h
noncomputable def F139 := Seal @B139
theorem F139_eq : @F139 = @B139 := Seal_eq _
noncomputable def E139 : Ent Try.prog := mkEnt tabOk 139 Try.f139 (Try.f139.body.getD .skip) Try.func139 (by kernel_rfl)
  [E188, E189, E191, E77]
  ⟨[], [(5, [(17, .one (.i .i64))]), (10, [(32, .one (.i .i64))])], [(18, (.q 0 (.q 1 (.q 2 (.q 3 (.q 4 (.q 5 (.q 6 (.q 7 (.m1 8 .done))))))))))]⟩
  [.one .p] (by kernel_rfl)
  (fun x K h => F139 x.1 (fun r1 h' => K (.int .i64 r1) h') h)
  (fun x K h => B139 x.1 (fun r1 h' => K (.int .i64 r1) h') h)
  (by rw [F139_eq]) (fun x K h => by kernel_rfl)

/-- pantry/pantryref07.New -/
def B140 (p0 : Option Addr) (p1 : Option Addr) (p2 : Int) (Q : Option Addr → Int → H → Prop) (h : H) : Prop :=
  F171 p1 1 p2 0 (fun r1 r2 h3 =>
  LetI r1 fun n4 =>
  LetI r2 fun n5 =>
  Br (n5 != 0)
  (LetI n5 fun n6 =>
  Q none n6 h3)
  (F167 p0 n4 (fun r7 h8 =>
  Nw h8 #[(.pointer p0), (.pointer p1), (.int .i64 p2), (.int .i64 n4), (.int .i64 1)] 189 fun a9 h10 =>
  Q (some a9) 0 h10) h3)) h
noncomputable def F140 := Seal @B140
theorem F140_eq : @F140 = @B140 := Seal_eq _
noncomputable def E140 : Ent Try.prog := mkEnt tabOk 140 Try.f140 (Try.f140.body.getD .skip) Try.func140 (by kernel_rfl)
  [E171, E167]
  ⟨[], [], []⟩
  [.one .p, .one .p, .one (.i .i64)] (by kernel_rfl)
  (fun x K h => F140 x.1 x.2.1 x.2.2.1 (fun r1 r2 h' => K (.tuple #[(.pointer r1), (.int .i64 r2)]) h') h)
  (fun x K h => B140 x.1 x.2.1 x.2.2.1 (fun r1 r2 h' => K (.tuple #[(.pointer r1), (.int .i64 r2)]) h') h)
  (by rw [F140_eq]) (fun x K h => by kernel_rfl)

/-- (*pantry/pantryref07.Map).next -/
def B196 (p0 : Option Addr) (p1 : Int) (p2 : Int) (Q : Int → H → Prop) (h : H) : Prop :=
  NilP p0 fun a1 =>
  Ld .p h ((a1.add 0).add 0) fun x2 =>
  F91 x2 p1 p2 (fun r3 r4 h5 =>
  LetI r3 fun n6 =>
  F52 n6 (fun r7 r8 h9 =>
  Nw h9 (zeroC Try.prog 25) 25 fun a10 h11 =>
  St h11 (a10.add 0) (.int .i64 r7) fun h12 =>
  St h12 (a10.add 1) (.int .i64 r8) fun h13 =>
  Ld (.i .i64) h13 (a10.add 0) fun x14 =>
  Ld (.i .i64) h13 (a10.add 1) fun x15 =>
  F54 x14 x15 (fun r16 h17 =>
  Br (r16 != 1)
  (Q (-1) h17)
  (NilP p0 fun a18 =>
  Ld .p h17 ((a18.add 0).add 0) fun x19 =>
  Ld (.i .i64) h17 ((a10.add 1).add 0) fun x20 =>
  QC [.one .b] h17 (fun K' h' => F170 x19 x20 (fun r22 h'' => K' (.bool r22) h'') h') fun x21 =>
  Br (!x21.1)
  (Q (-1) h17)
  (Ld (.i .i64) h17 ((a10.add 1).add 0) fun x23 =>
  LetI x23 fun n24 =>
  Q n24 h17))) h13) h5) h
noncomputable def F196 := Seal @B196
theorem F196_eq : @F196 = @B196 := Seal_eq _
noncomputable def E196 : Ent Try.prog := mkEnt tabOk 196 Try.f196 (Try.f196.body.getD .skip) Try.func196 (by kernel_rfl)
  [E91, E52, E54, E170]
  ⟨[], [], [(3, (.q 0 (.m1 1 (.q 2 (.q 3 (.q 4 (.q 5 (.q 6 (.q 7 (.q 8 (.q 9 (.qc 10 [.one .b] (.q 11 (.q 12 .done))))))))))))))]⟩
  [.one .p, .one (.i .i64), .one (.i .i64)] (by kernel_rfl)
  (fun x K h => F196 x.1 x.2.1 x.2.2.1 (fun r1 h' => K (.int .i64 r1) h') h)
  (fun x K h => B196 x.1 x.2.1 x.2.2.1 (fun r1 h' => K (.int .i64 r1) h') h)
  (by rw [F196_eq]) (fun x K h => by kernel_rfl)

/-- (*pantry/pantryref07.Map).grow -/
def B197 (p0 : Option Addr) (p1 : Int) (p2 : Int) (p3 : Int) (Q : Int → Int → H → Prop) (h : H) : Prop :=
  NilP p0 fun a1 =>
  Ld .p h ((a1.add 1).add 0) fun x2 =>
  NilP p0 fun a3 =>
  Ld (.i .i64) h ((a3.add 2).add 0) fun x4 =>
  F171 x2 1 x4 p3 (fun r5 r6 h7 =>
  LetI r5 fun n8 =>
  LetI r6 fun n9 =>
  Br (n9 != 0)
  (LetI n9 fun n10 =>
  Q 0 n10 h7)
  (NilP p0 fun a11 =>
  Ld .p h7 ((a11.add 0).add 0) fun x12 =>
  F167 x12 n8 (fun r13 h14 =>
  NilP p0 fun a15 =>
  Ld .p h14 ((a15.add 0).add 0) fun x16 =>
  F51 1 n8 (fun r17 h18 =>
  (hcell h18 ((a15.add 0).add 0) = some (.pointer x16)) ∧
  F166 x16 p1 p2 r17 (fun r19 h20 =>
  NilP p0 fun a21 =>
  Ld (.i .i64) h20 ((a21.add 4).add 0) fun x22 =>
  NilP p0 fun a23 =>
  St h20 ((a23.add 4).add 0) (.int .i64 (IntKind.wrap .i64 (x22 + 1))) fun h24 =>
  LetI n8 fun n25 =>
  Q n25 0 h24) h18) h14) h7)) h
noncomputable def F197 := Seal @B197
theorem F197_eq : @F197 = @B197 := Seal_eq _
noncomputable def E197 : Ent Try.prog := mkEnt tabOk 197 Try.f197 (Try.f197.body.getD .skip) Try.func197 (by kernel_rfl)
  [E171, E167, E51, E166]
  ⟨[], [], [(1, (.q 0 (.q 1 (.q 2 (.q 3 (.q 4 (.q 5 (.q 6 (.q 7 (.q 8 (.m1 9 (.q 10 (.q 11 (.q 12 (.q 13 (.q 14 .done)))))))))))))))), (5, (.q 0 (.q 1 (.q 2 (.q 3 (.q 4 (.q 5 (.q 6 (.q 7 (.m1 8 (.m1 9 .done)))))))))))]⟩
  [.one .p, .one (.i .i64), .one (.i .i64), .one (.i .i64)] (by kernel_rfl)
  (fun x K h => F197 x.1 x.2.1 x.2.2.1 x.2.2.2.1 (fun r1 r2 h' => K (.tuple #[(.int .i64 r1), (.int .i64 r2)]) h') h)
  (fun x K h => B197 x.1 x.2.1 x.2.2.1 x.2.2.2.1 (fun r1 r2 h' => K (.tuple #[(.int .i64 r1), (.int .i64 r2)]) h') h)
  (by rw [F197_eq]) (fun x K h => by kernel_rfl)

/-- (*pantry/pantryref07.Map).shrink -/
def B205 (p0 : Option Addr) (p1 : Int) (p2 : Int) (Q : H → Prop) (h : H) : Prop :=
  F196 p0 p1 p2 (fun r1 h2 =>
  LetI r1 fun n3 =>
  Br (decide (n3 < 0))
  (Q  h2)
  (LoopM (σ := Int × Unit) (fun self4 z5 h6 =>
  Br (decide (z5.1 < 512))
  (NilP p0 fun a7 =>
  Ld .p h6 ((a7.add 0).add 0) fun x8 =>
  F91 x8 n3 z5.1 (fun r9 r10 h11 =>
  LetI r9 fun n12 =>
  Br (n12 != 0)
  (Q  h11)
  (LetI (IntKind.wrap .i64 (z5.1 + 1)) fun n13 =>
  self4 (n13, ()) h11)) h6)
  (NilP p0 fun a14 =>
  Ld .p h6 ((a14.add 1).add 0) fun x15 =>
  F172 x15 n3 (fun r16 h17 =>
  NilP p0 fun a18 =>
  Ld .p h17 ((a18.add 0).add 0) fun x19 =>
  F166 x19 p1 p2 0 (fun r20 h21 =>
  NilP p0 fun a22 =>
  Ld (.i .i64) h21 ((a22.add 4).add 0) fun x23 =>
  NilP p0 fun a24 =>
  St h21 ((a24.add 4).add 0) (.int .i64 (IntKind.wrap .i64 (x23 - 1))) fun h25 =>
  Q  h25) h17) h6)) (0, ()) h2)) h
noncomputable def F205 := Seal @B205
theorem F205_eq : @F205 = @B205 := Seal_eq _
noncomputable def E205 : Ent Try.prog := mkEnt tabOk 205 Try.f205 (Try.f205.body.getD .skip) Try.func205 (by kernel_rfl)
  [E196, E91, E172, E166]
  ⟨[], [(3, [(7, .one (.i .i64))])], []⟩
  [.one .p, .one (.i .i64), .one (.i .i64)] (by kernel_rfl)
  (fun x K h => F205 x.1 x.2.1 x.2.2.1 (fun  h' => K (.tuple #[]) h') h)
  (fun x K h => B205 x.1 x.2.1 x.2.2.1 (fun  h' => K (.tuple #[]) h') h)
  (by rw [F205_eq]) (fun x K h => by kernel_rfl)

/-- (*pantry/pantryref07.Map).tidy -/
def B198 (p0 : Option Addr) (p1 : Int) (Q : H → Prop) (h : H) : Prop :=
  F46 p1 2 (fun r1 h2 =>
  F46 p1 1 (fun r3 h4 =>
  LetI r1 fun n5 =>
  LetI r3 fun n6 =>
  NilP p0 fun a7 =>
  Ld (.i .i64) h4 ((a7.add 3).add 0) fun x8 =>
  F196 p0 x8 n5 (fun r9 h10 =>
  LetI r9 fun n11 =>
  Br (decide (n11 ≥ 0))
  (F205 p0 n11 n6 (fun  h12 =>
  NilP p0 fun a13 =>
  Ld (.i .i64) h12 ((a13.add 3).add 0) fun x14 =>
  F205 p0 x14 n5 (fun  h15 =>
  Q  h15) h12) h10)
  (Q  h10)) h4) h2) h
noncomputable def F198 := Seal @B198
theorem F198_eq : @F198 = @B198 := Seal_eq _
noncomputable def E198 : Ent Try.prog := mkEnt tabOk 198 Try.f198 (Try.f198.body.getD .skip) Try.func198 (by kernel_rfl)
  [E46, E196, E205]
  ⟨[], [], []⟩
  [.one .p, .one (.i .i64)] (by kernel_rfl)
  (fun x K h => F198 x.1 x.2.1 (fun  h' => K (.tuple #[]) h') h)
  (fun x K h => B198 x.1 x.2.1 (fun  h' => K (.tuple #[]) h') h)
  (by rw [F198_eq]) (fun x K h => by kernel_rfl)

/-- (*pantry/pantryref07.Map).Enter -/
def B141 (p0 : Option Addr) (p1 : Int) (p2 : Int) (p3 : Int) (Q : Int → H → Prop) (h : H) : Prop :=
  JoinM (σ := Unit) (fun J1 =>
  Br (decide (p1 < 0))
  (Q 2 h)
  (Br (decide (p1 ≥ 67108864))
  (Q 2 h)
  (Br (decide (p3 < 1))
  (Q 2 h)
  (Br (decide (p3 > 7))
  (Q 2 h)
  (NilP p0 fun a4 =>
  Ld .p h ((a4.add 0).add 0) fun x5 =>
  F170 x5 p2 (fun r6 h7 =>
  Br (!r6)
  (Q 2 h7)
  (J1 (()) h7)) h)))))
  (fun y2 h3 =>
  F46 p1 2 (fun r8 h9 =>
  F46 p1 1 (fun r10 h11 =>
  F46 p1 0 (fun r12 h13 =>
  LetI r8 fun n14 =>
  LetI r10 fun n15 =>
  LetI r12 fun n16 =>
  NilP p0 fun a17 =>
  Ld (.i .i64) h13 ((a17.add 3).add 0) fun x18 =>
  F196 p0 x18 n14 (fun r19 h20 =>
  LetI r19 fun n21 =>
  JoinM (σ := Int × Unit) (fun J22 =>
  Br (decide (n21 < 0))
  (NilP p0 fun a25 =>
  Ld (.i .i64) h20 ((a25.add 3).add 0) fun x26 =>
  F197 p0 x26 n14 1 (fun r27 r28 h29 =>
  LetI r27 fun n30 =>
  LetI r28 fun n31 =>
  Br (n31 != 0)
  (LetI n31 fun n32 =>
  Q n32 h29)
  (LetI n30 fun n33 =>
  J22 (n33, ()) h29)) h20)
  (J22 (n21, ()) h20))
  (fun y23 h24 =>
  F196 p0 y23.1 n15 (fun r34 h35 =>
  LetI r34 fun n36 =>
  JoinM (σ := Int × Unit) (fun J37 =>
  Br (decide (n36 < 0))
  (F197 p0 y23.1 n15 2 (fun r40 r41 h42 =>
  LetI r40 fun n43 =>
  LetI r41 fun n44 =>
  Br (n44 != 0)
  (F198 p0 p1 (fun  h45 =>
  LetI n44 fun n46 =>
  Q n46 h45) h42)
  (LetI n43 fun n47 =>
  J37 (n47, ()) h42)) h35)
  (J37 (n36, ()) h35))
  (fun y38 h39 =>
  NilP p0 fun a48 =>
  Ld .p h39 ((a48.add 0).add 0) fun x49 =>
  QC [.one (.i .i64)] h39 (fun K' h' => F59 p3 true (fun r51 h'' => K' (.int .i64 r51) h'') h') fun x50 =>
  F51 x50.1 p2 (fun r52 h53 =>
  (hcell h53 ((a48.add 0).add 0) = some (.pointer x49)) ∧
  F166 x49 y38.1 n16 r52 (fun r54 h55 =>
  Q 0 h55) h53) h39)) h24)) h13) h11) h9) h3)
noncomputable def F141 := Seal @B141
theorem F141_eq : @F141 = @B141 := Seal_eq _
noncomputable def E141 : Ent Try.prog := mkEnt tabOk 141 Try.f141 (Try.f141.body.getD .skip) Try.func141 (by kernel_rfl)
  [E170, E46, E196, E197, E198, E59, E51, E166]
  ⟨[(3, []), (10, [(12, .one (.i .i64))]), (17, [(15, .one (.i .i64))])], [], [(17, (.q 0 (.q 1 (.q 2 (.q 3 (.q 4 (.q 5 (.q 6 (.qc 7 [.one (.i .i64)] (.q 8 (.q 9 (.m1 10 (.m1 11 .done)))))))))))))]⟩
  [.one .p, .one (.i .i64), .one (.i .i64), .one (.i .i64)] (by kernel_rfl)
  (fun x K h => F141 x.1 x.2.1 x.2.2.1 x.2.2.2.1 (fun r1 h' => K (.int .i64 r1) h') h)
  (fun x K h => B141 x.1 x.2.1 x.2.2.1 x.2.2.2.1 (fun r1 h' => K (.int .i64 r1) h') h)
  (by rw [F141_eq]) (fun x K h => by kernel_rfl)

/-- (*pantry/pantryref07.Map).Find -/
def B145 (p0 : Option Addr) (p1 : Int) (Q : Int → Int → Bool → H → Prop) (h : H) : Prop :=
  Nw h (zeroC Try.prog 25) 25 fun a1 h2 =>
  NilP p0 fun a3 =>
  Ld .p h2 ((a3.add 0).add 0) fun x4 =>
  NilP p0 fun a5 =>
  Ld (.i .i64) h2 ((a5.add 3).add 0) fun x6 =>
  (F123 x4 x6 p1 (fun r7 r8 r9 h10 =>
  Nw h10 (zeroC Try.prog 25) 25 fun a11 h12 =>
  St h12 (a11.add 0) (.int .i64 r7) fun h13 =>
  St h13 (a11.add 1) (.int .i64 r8) fun h14 =>
  Br (!r9)
  (St h14 (a1.add 0) (.int .i64 0) fun h15 =>
  St h15 (a1.add 1) (.int .i64 0) fun h16 =>
  Ld (.i .i64) h16 (a1.add 0) fun x17 =>
  Ld (.i .i64) h16 (a1.add 1) fun x18 =>
  Q x17 x18 false h16)
  (Ld (.i .i64) h14 (a11.add 0) fun x19 =>
  Ld (.i .i64) h14 (a11.add 1) fun x20 =>
  F54 x19 x20 (fun r21 h22 =>
  Br (r21 != 2)
  (St h22 (a1.add 0) (.int .i64 0) fun h23 =>
  St h23 (a1.add 1) (.int .i64 0) fun h24 =>
  Ld (.i .i64) h24 (a1.add 0) fun x25 =>
  Ld (.i .i64) h24 (a1.add 1) fun x26 =>
  Q x25 x26 false h24)
  (Ld (.i .i64) h22 (a11.add 0) fun x27 =>
  Ld (.i .i64) h22 (a11.add 1) fun x28 =>
  St h22 (a1.add 0) (.int .i64 x27) fun h29 =>
  St h29 (a1.add 1) (.int .i64 x28) fun h30 =>
  Ld (.i .i64) h30 (a1.add 0) fun x31 =>
  Ld (.i .i64) h30 (a1.add 1) fun x32 =>
  Q x31 x32 true h30)) h14)) h2) ∧
  (Nw h2 (zeroC Try.prog 25) 25 fun a33 h34 =>
  (hcell h34 ((a5.add 3).add 0) = some (.int .i64 x6)) ∧
  (hcell h34 ((a3.add 0).add 0) = some (.pointer x4)) ∧
  F123 x4 x6 p1 (fun r35 r36 r37 h38 =>
  St h38 (a33.add 0) (.int .i64 r35) fun h39 =>
  St h39 (a33.add 1) (.int .i64 r36) fun h40 =>
  Br (!r37)
  (St h40 (a1.add 0) (.int .i64 0) fun h41 =>
  St h41 (a1.add 1) (.int .i64 0) fun h42 =>
  Ld (.i .i64) h42 (a1.add 0) fun x43 =>
  Ld (.i .i64) h42 (a1.add 1) fun x44 =>
  Q x43 x44 false h42)
  (Ld (.i .i64) h40 (a33.add 0) fun x45 =>
  Ld (.i .i64) h40 (a33.add 1) fun x46 =>
  F54 x45 x46 (fun r47 h48 =>
  Br (r47 != 2)
  (St h48 (a1.add 0) (.int .i64 0) fun h49 =>
  St h49 (a1.add 1) (.int .i64 0) fun h50 =>
  Ld (.i .i64) h50 (a1.add 0) fun x51 =>
  Ld (.i .i64) h50 (a1.add 1) fun x52 =>
  Q x51 x52 false h50)
  (Ld (.i .i64) h48 (a33.add 0) fun x53 =>
  Ld (.i .i64) h48 (a33.add 1) fun x54 =>
  St h48 (a1.add 0) (.int .i64 x53) fun h55 =>
  St h55 (a1.add 1) (.int .i64 x54) fun h56 =>
  Ld (.i .i64) h56 (a1.add 0) fun x57 =>
  Ld (.i .i64) h56 (a1.add 1) fun x58 =>
  Q x57 x58 true h56)) h40)) h34)
noncomputable def F145 := Seal @B145
theorem F145_eq : @F145 = @B145 := Seal_eq _
noncomputable def E145 : Ent Try.prog := mkEnt tabOk 145 Try.f145 (Try.f145.body.getD .skip) Try.func145 (by kernel_rfl)
  [E123, E54]
  ⟨[], [], [(1, (.q 0 (.q 1 (.q 2 (.q 3 (.q 4 (.q 5 (.q 6 (.q 7 (.q 8 (.m2 9 13 (.q 10 (.q 11 (.q 12 (.m1 13 (.m1 14 (.q 15 .done)))))) (.m1 9 (.q 10 (.q 11 (.q 12 (.m1 14 (.q 15 .done)))))))))))))))))]⟩
  [.one .p, .one (.i .i64)] (by kernel_rfl)
  (fun x K h => F145 x.1 x.2.1 (fun r1 r2 r3 h' => K (.tuple #[(.agg #[(.int .i64 r1), (.int .i64 r2)]), (.bool r3)]) h') h)
  (fun x K h => B145 x.1 x.2.1 (fun r1 r2 r3 h' => K (.tuple #[(.agg #[(.int .i64 r1), (.int .i64 r2)]), (.bool r3)]) h') h)
  (by rw [F145_eq]) (fun x K h => by kernel_rfl)

/-- (*pantry/pantryref07.Map).set -/
def B199 (p0 : Option Addr) (p1 : Int) (p2 : Int) (Q : H → Prop) (h : H) : Prop :=
  NilP p0 fun a1 =>
  Ld .p h ((a1.add 0).add 0) fun x2 =>
  NilP p0 fun a3 =>
  Ld (.i .i64) h ((a3.add 3).add 0) fun x4 =>
  F121 x2 x4 p1 (fun r5 r6 r7 h8 =>
  LetI r5 fun n9 =>
  LetI r6 fun n10 =>
  NilP p0 fun a11 =>
  Ld .p h8 ((a11.add 0).add 0) fun x12 =>
  F166 x12 n9 n10 p2 (fun r13 h14 =>
  Q  h14) h8) h
noncomputable def F199 := Seal @B199
theorem F199_eq : @F199 = @B199 := Seal_eq _
noncomputable def E199 : Ent Try.prog := mkEnt tabOk 199 Try.f199 (Try.f199.body.getD .skip) Try.func199 (by kernel_rfl)
  [E121, E166]
  ⟨[], [], [(0, (.q 0 (.q 1 (.q 2 (.q 3 (.q 4 (.q 5 (.q 6 (.q 7 (.q 8 (.m1 9 (.q 10 (.q 11 (.q 12 (.q 13 (.q 14 (.q 15 (.q 16 .done))))))))))))))))))]⟩
  [.one .p, .one (.i .i64), .one (.i .u64)] (by kernel_rfl)
  (fun x K h => F199 x.1 x.2.1 x.2.2.1 (fun  h' => K (.tuple #[]) h') h)
  (fun x K h => B199 x.1 x.2.1 x.2.2.1 (fun  h' => K (.tuple #[]) h') h)
  (by rw [F199_eq]) (fun x K h => by kernel_rfl)

/-- (*pantry/pantryref07.Map).Remove -/
def B142 (p0 : Option Addr) (p1 : Int) (Q : Bool → H → Prop) (h : H) : Prop :=
  F145 p0 p1 (fun r1 r2 r3 h4 =>
  Nw h4 (zeroC Try.prog 25) 25 fun a5 h6 =>
  St h6 (a5.add 0) (.int .i64 r1) fun h7 =>
  St h7 (a5.add 1) (.int .i64 r2) fun h8 =>
  Br (!r3)
  (Q false h8)
  (F199 p0 p1 0 (fun  h9 =>
  F198 p0 p1 (fun  h10 =>
  Q true h10) h9) h8)) h
noncomputable def F142 := Seal @B142
theorem F142_eq : @F142 = @B142 := Seal_eq _
noncomputable def E142 : Ent Try.prog := mkEnt tabOk 142 Try.f142 (Try.f142.body.getD .skip) Try.func142 (by kernel_rfl)
  [E145, E199, E198]
  ⟨[], [], []⟩
  [.one .p, .one (.i .i64)] (by kernel_rfl)
  (fun x K h => F142 x.1 x.2.1 (fun r1 h' => K (.bool r1) h') h)
  (fun x K h => B142 x.1 x.2.1 (fun r1 h' => K (.bool r1) h') h)
  (by rw [F142_eq]) (fun x K h => by kernel_rfl)

/-- (*pantry/pantryref07.Map).Protect -/
def B143 (p0 : Option Addr) (p1 : Int) (p2 : Int) (Q : Bool → H → Prop) (h : H) : Prop :=
  F145 p0 p1 (fun r1 r2 r3 h4 =>
  Nw h4 (zeroC Try.prog 25) 25 fun a5 h6 =>
  St h6 (a5.add 0) (.int .i64 r1) fun h7 =>
  St h7 (a5.add 1) (.int .i64 r2) fun h8 =>
  Br (!r3)
  (Q false h8)
  (F59 p2 true (fun r9 h10 =>
  LetI r9 fun n11 =>
  Br (n11 == 0)
  (F142 p0 p1 (fun r12 h13 =>
  Q r12 h13) h10)
  (Ld (.i .i64) h10 ((a5.add 0).add 0) fun x14 =>
  St h10 ((a5.add 0).add 0) (.int .i64 (IntKind.wrap .i64 (n11 + (bAnd .i64 x14 192)))) fun h15 =>
  Ld (.i .i64) h15 (a5.add 0) fun x16 =>
  Ld (.i .i64) h15 (a5.add 1) fun x17 =>
  F51 x16 x17 (fun r18 h19 =>
  F199 p0 p1 r18 (fun  h20 =>
  Q true h20) h19) h15)) h8)) h
noncomputable def F143 := Seal @B143
theorem F143_eq : @F143 = @B143 := Seal_eq _
noncomputable def E143 : Ent Try.prog := mkEnt tabOk 143 Try.f143 (Try.f143.body.getD .skip) Try.func143 (by kernel_rfl)
  [E145, E59, E142, E51, E199]
  ⟨[], [], []⟩
  [.one .p, .one (.i .i64), .one (.i .i64)] (by kernel_rfl)
  (fun x K h => F143 x.1 x.2.1 x.2.2.1 (fun r1 h' => K (.bool r1) h') h)
  (fun x K h => B143 x.1 x.2.1 x.2.2.1 (fun r1 h' => K (.bool r1) h') h)
  (by rw [F143_eq]) (fun x K h => by kernel_rfl)

/-- (*pantry/pantryref07.Map).Clear -/
def B144 (p0 : Option Addr) (p1 : Int) (p2 : Int) (Q : Int → H → Prop) (h : H) : Prop :=
  F145 p0 p1 (fun r1 r2 r3 h4 =>
  Nw h4 (zeroC Try.prog 25) 25 fun a5 h6 =>
  St h6 (a5.add 0) (.int .i64 r1) fun h7 =>
  St h7 (a5.add 1) (.int .i64 r2) fun h8 =>
  Br (!r3)
  (Q 0 h8)
  (Ld (.i .i64) h8 ((a5.add 0).add 0) fun x9 =>
  LetI (bAnd .i64 (bAnd .i64 x9 p2) 192) fun n10 =>
  Ld (.i .i64) h8 ((a5.add 0).add 0) fun x11 =>
  St h8 ((a5.add 0).add 0) (.int .i64 (IntKind.wrap .i64 (x11 - n10))) fun h12 =>
  Ld (.i .i64) h12 (a5.add 0) fun x13 =>
  Ld (.i .i64) h12 (a5.add 1) fun x14 =>
  F51 x13 x14 (fun r15 h16 =>
  F199 p0 p1 r15 (fun  h17 =>
  LetI n10 fun n18 =>
  Q n18 h17) h16) h12)) h
noncomputable def F144 := Seal @B144
theorem F144_eq : @F144 = @B144 := Seal_eq _
noncomputable def E144 : Ent Try.prog := mkEnt tabOk 144 Try.f144 (Try.f144.body.getD .skip) Try.func144 (by kernel_rfl)
  [E145, E51, E199]
  ⟨[], [], []⟩
  [.one .p, .one (.i .i64), .one (.i .i64)] (by kernel_rfl)
  (fun x K h => F144 x.1 x.2.1 x.2.2.1 (fun r1 h' => K (.int .i64 r1) h') h)
  (fun x K h => B144 x.1 x.2.1 x.2.2.1 (fun r1 h' => K (.int .i64 r1) h') h)
  (by rw [F144_eq]) (fun x K h => by kernel_rfl)

/-- (*pantry/pantryref07.Map).Close -/
def B147 (p0 : Option Addr) (Q : Int → H → Prop) (h : H) : Prop :=
  LoopM (σ := Int × Int × Unit) (fun self1 z2 h3 =>
  Br (decide (z2.2.1 < 512))
  (NilP p0 fun a4 =>
  Ld (.i .i64) h3 ((a4.add 3).add 0) fun x5 =>
  F196 p0 x5 z2.2.1 (fun r6 h7 =>
  LetI r6 fun n8 =>
  Br (decide (n8 < 0))
  (LetI (IntKind.wrap .i64 (z2.2.1 + 1)) fun n9 =>
  self1 (z2.1, n9, ()) h7)
  (LoopM (σ := Int × Int × Unit) (fun self10 z11 h12 =>
  Br (decide (z11.2.1 < 512))
  (F196 p0 n8 z11.2.1 (fun r13 h14 =>
  LetI r13 fun n15 =>
  Br (decide (n15 ≥ 0))
  (NilP p0 fun a16 =>
  Ld .p h14 ((a16.add 1).add 0) fun x17 =>
  F172 x17 n15 (fun r18 h19 =>
  Br (r18 == 0)
  (LetI (IntKind.wrap .i64 (z11.1 + 1)) fun n20 =>
  LetI (IntKind.wrap .i64 (z11.2.1 + 1)) fun n21 =>
  self10 (n20, n21, ()) h19)
  (LetI (IntKind.wrap .i64 (z11.2.1 + 1)) fun n22 =>
  self10 (z11.1, n22, ()) h19)) h14)
  (LetI (IntKind.wrap .i64 (z11.2.1 + 1)) fun n23 =>
  self10 (z11.1, n23, ()) h14)) h12)
  (NilP p0 fun a24 =>
  Ld .p h12 ((a24.add 1).add 0) fun x25 =>
  F172 x25 n8 (fun r26 h27 =>
  Br (r26 == 0)
  (LetI (IntKind.wrap .i64 (z11.1 + 1)) fun n28 =>
  LetI (IntKind.wrap .i64 (z2.2.1 + 1)) fun n29 =>
  self1 (n28, n29, ()) h27)
  (LetI (IntKind.wrap .i64 (z2.2.1 + 1)) fun n30 =>
  self1 (z11.1, n30, ()) h27)) h12)) (z2.1, 0, ()) h7)) h3)
  (NilP p0 fun a31 =>
  Ld .p h3 ((a31.add 1).add 0) fun x32 =>
  NilP p0 fun a33 =>
  Ld (.i .i64) h3 ((a33.add 3).add 0) fun x34 =>
  F172 x32 x34 (fun r35 h36 =>
  Br (r35 == 0)
  (LetI (IntKind.wrap .i64 (z2.1 + 1)) fun n37 =>
  LetI n37 fun n38 =>
  Q n38 h36)
  (LetI z2.1 fun n39 =>
  Q n39 h36)) h3)) (0, 0, ()) h
noncomputable def F147 := Seal @B147
theorem F147_eq : @F147 = @B147 := Seal_eq _
noncomputable def E147 : Ent Try.prog := mkEnt tabOk 147 Try.f147 (Try.f147.body.getD .skip) Try.func147 (by kernel_rfl)
  [E196, E172]
  ⟨[], [(3, [(3, .one (.i .i64)), (4, .one (.i .i64))]), (8, [(3, .one (.i .i64)), (6, .one (.i .i64))])], [(15, (.q 0 (.q 1 (.q 2 (.q 3 (.q 4 (.q 5 (.q 6 (.q 7 (.m1 8 (.q 9 .done)))))))))))]⟩
  [.one .p] (by kernel_rfl)
  (fun x K h => F147 x.1 (fun r1 h' => K (.int .i64 r1) h') h)
  (fun x K h => B147 x.1 (fun r1 h' => K (.int .i64 r1) h') h)
  (by rw [F147_eq]) (fun x K h => by kernel_rfl)

/-- (*pantry/pmap.Map).All -/
def B149 (p0 : Option Addr) (Q : Value → H → Prop) (h : H) : Prop :=
  Nw h #[(.pointer p0)] 167 fun a1 h2 =>
  Q (.func (.func 200) #[] #[(.pointer (some a1))]) h2
noncomputable def F149 := Seal @B149
theorem F149_eq : @F149 = @B149 := Seal_eq _
noncomputable def E149 : Ent Try.prog := mkEnt tabOk 149 Try.f149 (Try.f149.body.getD .skip) Try.func149 (by kernel_rfl)
  []
  ⟨[], [], []⟩
  [.one .p] (by kernel_rfl)
  (fun x K h => F149 x.1 (fun r1 h' => K r1 h') h)
  (fun x K h => B149 x.1 (fun r1 h' => K r1 h') h)
  (by rw [F149_eq]) (fun x K h => by kernel_rfl)

end Go.Proofs.Ytfijchofplkcoaa
