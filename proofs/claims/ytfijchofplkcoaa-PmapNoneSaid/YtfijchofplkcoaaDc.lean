/-
  A memory that no call made has no frames: the law PhysNone over the heap predicates.
-/
import Derived.Test.YtfijchofplkcoaaDb
set_option linter.unusedVariables false
set_option linter.unusedSimpArgs false
set_option maxRecDepth 100000
namespace Go.Proofs.Ytfijchofplkcoaa

/-- No memory, or one that no call made. -/
def NM (h : H) (p : Option Addr) : Prop := p = none ∨ ∃ b, p = some ⟨b, 0, none⟩ ∧ h[b]? = some (.cells #[.slice none 0 0] 101)
theorem NM.kept {h h' : H} {p : Option Addr} (m : NM h p) (k : Kept h h') : NM h' p := by
  rcases m with rfl | ⟨b, rfl, e⟩
  · exact .inl rfl
  · exact .inr ⟨b, rfl, k.blk e⟩
section
variable {h : H} {p : Option Addr}
theorem N93 {Q : Int → H → Prop} (m : NM h p) (q : Q 0 h) : F93 p Q h := by
  rw [F93_eq]
  rcases m with rfl | ⟨b, rfl, e⟩
  · exact q
  · refine Ld_s (x := ⟨none, 0, 0⟩) ?_ q
    simp only [add_mk]; rw [hcell_blk e]; rfl
theorem N155 {i : Int} {Q : Option Addr → H → Prop} (m : NM h p) (q : Q none h) : F155 p i Q h := by
  rw [F155_eq]
  refine Br_dec (fun hh => q) fun h1 => N93 m (Br_dec (fun hh => q) fun h2 => by omega)
theorem N84 {i k : Int} {Q : Int → Bool → H → Prop} (m : NM h p) (q : Q 0 false h) : F84 p i k Q h := by
  rw [F84_eq]; exact N155 m q
theorem N74 {i k v : Int} {Q : Bool → H → Prop} (m : NM h p) (q : Q false h) : F74 p i k v Q h := by
  rw [F74_eq]; exact N155 m q
theorem N164 {i k : Int} {Q : Sl → H → Prop} (m : NM h p) (q : Q ⟨none, 0, 0⟩ h) : F164 p i k Q h := by
  rw [F164_eq]; exact N155 m q
theorem N82 {i k v : Int} {Q : Bool → H → Prop} (m : NM h p) (q : Q false h) : F82 p i k v Q h := by
  rw [F82_eq]; exact N164 m q
theorem N83 {i k : Int} {Q : Int → Bool → H → Prop} (m : NM h p) (q : Q 0 false h) : F83 p i k Q h := by
  rw [F83_eq]; exact N164 m q
theorem N63 {i : Int} {s : Sl} {Q : Bool → H → Prop} (m : NM h p) (q : Q false h) : F63 p i s Q h := by
  rw [F63_eq]; exact N155 m q
theorem N87 {i : Int} {Q : Bool → H → Prop} (m : NM h p) (q : Q false h) : F87 p i Q h := by
  rw [F87_eq]; exact N63 m q
theorem N85 {i j : Int} {Q : Bool → H → Prop} (m : NM h p) (q : Q false h) : F85 p i j Q h := by
  rw [F85_eq]; exact N155 m (N155 m q)
theorem N86 {i j : Int} {Q : Bool → H → Prop} (m : NM h p) (q : Q false h) : F86 p i j Q h := by
  rw [F86_eq]; exact N155 m (N155 m q)
theorem N64 {i : Int} {Q : Sl → H → Prop} (m : NM h p) (q : Q ⟨none, 0, 0⟩ h) : F64 p i Q h := by
  rw [F64_eq]; exact N155 m q
theorem N81 {k a b v : Int} {s : Sl} {Q : Bool → H → Prop} (m : NM h p) (q : ∀ h', Kept h h' → Q false h') : F81 p k a b v s Q h := by
  rw [F81_eq]
  refine Nw_intro fun n h2 hn k2 e2 => ?_
  simp only [add_mk]
  have m2 := m.kept k2
  have q2 := q h2 k2
  refine Ld_i (x := k) (by rw [hcell_blk e2]; rfl) ?_
  refine Br_if (fun _ => Ld_i (x := a) (by rw [hcell_blk e2]; rfl) (Ld_i (x := b) (by rw [hcell_blk e2]; rfl) (Ld_i (x := v) (by rw [hcell_blk e2]; rfl) (N74 m2 q2)))) fun _ => ?_
  refine Br_if (fun _ => Ld_i (x := a) (by rw [hcell_blk e2]; rfl) (Ld_i (x := b) (by rw [hcell_blk e2]; rfl) (Ld_i (x := v) (by rw [hcell_blk e2]; rfl) (N82 m2 q2)))) fun _ => ?_
  refine Br_if (fun _ => Ld_i (x := a) (by rw [hcell_blk e2]; rfl) (N87 m2 q2)) fun _ => ?_
  refine Br_if (fun _ => Ld_i (x := a) (by rw [hcell_blk e2]; rfl) (Ld_i (x := b) (by rw [hcell_blk e2]; rfl) (N85 m2 q2))) fun _ => ?_
  refine Br_if (fun _ => Ld_i (x := a) (by rw [hcell_blk e2]; rfl) (Ld_s (x := s) (by rw [hcell_blk e2]; rfl) (N63 m2 q2))) fun _ => q2
end

theorem zero101 : zeroC Try.prog 101 = #[.slice none 0 0] := by kernel_rfl
/-- The act's cells, whatever its kind is. -/
def ActC (h : H) (n : Nat) (a b v : Int) (s : Sl) : Prop := ∃ k : Int, h[n]? = some (.cells #[(.int .i64 k), (.int .i64 a), (.int .i64 b), (.int .u64 v), (.slice s.a s.len s.cap)] 77)
theorem ActC.kept {h h' : H} {n : Nat} {a b v : Int} {s : Sl} (e : ActC h n a b v s) (k : Kept h h') : ActC h' n a b v s := by
  obtain ⟨c, e⟩ := e; exact ⟨c, k.blk e⟩
/-- What a run of the law has at each turn. -/
structure S19 (h0 : H) (n z : Nat) (a b v : Int) (s : Sl) (h' : H) : Prop where
  kept : Kept h0 h'
  act : ActC h' n a b v s
  mem : h'[z]? = some (.cells #[.slice none 0 0] 101)
  lo : h0.size ≤ n
  ne : n ≠ z
theorem S19.more {h0 h1 h2 : H} {n z : Nat} {a b v : Int} {s : Sl} (e : S19 h0 n z a b v s h1) (k : Kept h1 h2) : S19 h0 n z a b v s h2 :=
  ⟨e.kept.trans k, e.act.kept k, k.blk e.mem, e.lo, e.ne⟩
theorem L19 {k a b v : Int} {s : Sl} {Q : Bool → H → Prop} {h : H} (q : ∀ h', Kept h h' → Q true h') : F19 k a b v s Q h := by
  rw [F19_eq]
  refine Nw_intro fun n h2 hn k2 e2 => Nw_intro fun z h4 hz k4 e4 => ?_
  rw [zero101] at e4
  have hne : n ≠ z := by have := (Array.getElem?_eq_some_iff.1 e2).1; omega
  have S0 : S19 h n z a b v s h4 := ⟨k2.trans k4, ⟨k, k4.blk e2⟩, e4, by omega, hne⟩
  refine Loop_intro (σ := Int × Unit) (x := (0, ())) (fun c y h' => ∃ i : Nat, y.1 = (i : Int) ∧ c = 2 - i ∧ i ≤ 2 ∧ S19 h n z a b v s h') 2 ⟨0, rfl, rfl, by omega, S0⟩ ?_
  rintro c ⟨ii, u⟩ h7 ⟨i, hi, hc, hi2, S7⟩
  simp only at hi
  subst hi
  refine Br_dec (fun hlt => ?_) fun _ => C62 fun h9 k9 => q h9 (S7.kept.trans k9)
  have hlt : i < 2 := by simp at hlt; omega
  refine ⟨⟨by simp, by simp; omega⟩, ?_⟩
  obtain ⟨P, hP⟩ : ∃ P : Option Addr, P = List.getD [none, some ⟨z, 0, none⟩] (Int.toNat (i : Int)) none := ⟨_, rfl⟩
  simp only
  rw [← hP]
  have hNM : ∀ h', S19 h n z a b v s h' → NM h' P := by
    intro h' S
    have : i = 0 ∨ i = 1 := by omega
    rcases this with rfl | rfl
    · exact .inl hP
    · exact .inr ⟨z, hP, S.mem⟩
  refine Loop_intro (σ := Int × Unit) (x := (0, ())) (fun c y h' => ∃ i : Nat, y.1 = (i : Int) ∧ c = 5 - i ∧ i ≤ 5 ∧ S19 h n z a b v s h') 5 ⟨0, rfl, rfl, by omega, S7⟩ ?_
  rintro d ⟨jj, u⟩ h10 ⟨j, hj, hd, hj5, S10⟩
  simp only at hj
  subst hj
  refine Br_dec (fun hlt5 => ?_) fun _ => ?_
  · have hlt5 : j < 5 := by simp at hlt5; omega
    obtain ⟨k0, e10⟩ := S10.act
    simp only [add_mk]
    refine St_intro e10 (by simp) fun h11 u11 e11 => ?_
    have S11 : S19 h n z a b v s h11 := ⟨u11.kept S10.kept S10.lo, ⟨j, e11⟩, u11.blk S10.mem (Ne.symm S10.ne), S10.lo, S10.ne⟩
    refine Ld_i (x := (j : Int)) (by rw [hcell_blk e11]; rfl) (Ld_i (x := a) (by rw [hcell_blk e11]; rfl) (Ld_i (x := b) (by rw [hcell_blk e11]; rfl) (Ld_i (x := v) (by rw [hcell_blk e11]; rfl) (Ld_s (x := s) (by rw [hcell_blk e11]; rfl) ?_))))
    refine N81 (hNM _ S11) fun h12 k12 => ?_
    exact ⟨5 - (j + 1), by omega, j + 1, by show IntKind.wrap .i64 ((j : Int) + 1) = _; rw [wrap_i64' _ (by omega) (by omega)]; omega, rfl, by omega, S11.more k12⟩
  · obtain ⟨k0, e10⟩ := S10.act
    have nm := hNM _ S10
    have ca : hcell h10 ((({ block := n, off := 0, spot := none } : Addr).add 1).add 0) = some (.int .i64 a) := by simp only [add_mk]; rw [hcell_blk e10]; rfl
    have cb : hcell h10 ((({ block := n, off := 0, spot := none } : Addr).add 2).add 0) = some (.int .i64 b) := by simp only [add_mk]; rw [hcell_blk e10]; rfl
    refine Ld_i ca (Ld_i cb (N84 nm (Ld_i ca (Ld_i cb (N83 nm ?_)))))
    simp only [LetI, Br_false]
    refine N93 nm ?_
    refine Ld_i ca (N64 nm ?_)
    refine Ld_i ca (Ld_i ca (N86 nm ?_))
    exact ⟨2 - (i + 1), by omega, i + 1, by show IntKind.wrap .i64 ((i : Int) + 1) = _; rw [wrap_i64' _ (by omega) (by omega)]; omega, rfl, by omega, S10⟩
end Go.Proofs.Ytfijchofplkcoaa
