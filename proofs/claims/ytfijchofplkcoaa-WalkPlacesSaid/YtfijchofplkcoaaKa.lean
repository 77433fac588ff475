/-
  Slices of numbers that grow by append; a join of ways.
-/
import Derived.Test.YtfijchofplkcoaaDg
import Derived.Test.YtfijchofplkcoaaIa
set_option linter.unusedVariables false
set_option linter.unusedSimpArgs false
set_option maxRecDepth 100000
namespace Go.Proofs.Ytfijchofplkcoaa

theorem JoinI {σ : Type} {A : (σ → H → Prop) → Prop} {B : σ → H → Prop} (J : σ → H → Prop) (hA : ∀ J' : σ → H → Prop, (∀ x h, J x h → J' x h) → A J') (hB : ∀ x h, J x h → B x h) : JoinM A B :=
  hA B hB
abbrev VK (kd : IntKind) (xs : List Int) : Array Value := (xs.map (Value.int kd)).toArray
def IK (kd : IntKind) (h : H) (b t : Nat) (xs : List Int) : Prop := h[b]? = some (.cells (VK kd xs) t)
theorem IK.cell {kd : IntKind} {h : H} {b t : Nat} {xs : List Int} (e : IK kd h b t xs) {i : Nat} (hi : i < xs.length) : hcell h ⟨b, i, none⟩ = some (.int kd (xs.getD i 0)) := by
  rw [hcell_blk e]; simp [hi, List.getElem?_eq_getElem]
/-- All that stood below a bound stays, and some blocks above it. -/
def KX (h : H) (ex : List Nat) (lo : Nat) (h' : H) : Prop := h.size ≤ h'.size ∧ ∀ i, i < h.size → (i < lo ∨ i ∈ ex) → h'[i]? = h[i]?
theorem KX.refl (h : H) (ex : List Nat) (lo : Nat) : KX h ex lo h := ⟨Nat.le_refl _, fun _ _ _ => rfl⟩
theorem KX.trans {h h' h'' : H} {ex : List Nat} {lo : Nat} (u : KX h ex lo h') (v : KX h' ex lo h'') : KX h ex lo h'' :=
  ⟨Nat.le_trans u.1 v.1, fun i hi hn => (v.2 i (Nat.lt_of_lt_of_le hi u.1) hn).trans (u.2 i hi hn)⟩
theorem KX.blk {h h' : H} {ex : List Nat} {lo c : Nat} {o : Obj} (u : KX h ex lo h') (e : h[c]? = some o) (n : c < lo ∨ c ∈ ex) : h'[c]? = some o := by
  rw [u.2 c (Array.getElem?_eq_some_iff.1 e).1 n, e]
theorem KX.kept {h0 h h' : H} {ex : List Nat} {lo : Nat} (u : KX h ex lo h') (k : Kept h0 h) (hlo : h0.size ≤ lo) : Kept h0 h' :=
  ⟨Nat.le_trans k.1 u.1, fun i hi => (u.2 i (Nat.lt_of_lt_of_le hi k.1) (.inl (by omega))).trans (k.2 i hi)⟩
theorem Kept.kx {h h' : H} {ex : List Nat} {lo : Nat} (u : Kept h h') : KX h ex lo h' := ⟨u.1, fun i hi _ => u.2 i hi⟩
/-- A slice of numbers, so many an element, that nothing else has. -/
def GS (kd : IntKind) (h : H) (t k : Nat) (s : Sl) (xs : List Int) (ex : List Nat) (lo : Nat) : Prop :=
  xs.length = k * s.len ∧ ((s.a = none ∧ s.len = 0 ∧ s.cap = 0) ∨ ∃ b zs, s.a = some ⟨b, 0, none⟩ ∧ lo ≤ b ∧ b ∉ ex ∧ IK kd h b t zs ∧ zs.length = k * s.cap ∧ s.len ≤ s.cap ∧ zs.take (k * s.len) = xs)
section
variable {kd : IntKind} {h h' : H} {t k lo : Nat} {s : Sl} {xs : List Int} {ex : List Nat}
theorem GS.kept (g : GS kd h t k s xs ex lo) (kk : Kept h h') : GS kd h' t k s xs ex lo := by
  refine ⟨g.1, ?_⟩
  rcases g.2 with g | ⟨b, zs, h1, h2, h3, h4, h5⟩
  · exact .inl g
  · exact .inr ⟨b, zs, h1, h2, h3, kk.blk h4, h5⟩
theorem GS.kl {L : List Nat} (g : GS kd h t k s xs ex lo) (kk : KL h L h') (hL : ∀ b ∈ L, b ∈ ex) : GS kd h' t k s xs ex lo := by
  refine ⟨g.1, ?_⟩
  rcases g.2 with g | ⟨b, zs, h1, h2, h3, h4, h5⟩
  · exact .inl g
  · exact .inr ⟨b, zs, h1, h2, h3, kk.blk h4 (fun hm => h3 (hL b hm)), h5⟩
theorem GS.nil : GS kd h t k ⟨none, 0, 0⟩ [] ex lo := ⟨by simp, .inl ⟨rfl, rfl, rfl⟩⟩
theorem GS.cell (g : GS kd h t k s xs ex lo) {j : Nat} (hj : j < k * s.len) : ∃ b, s.a = some ⟨b, 0, none⟩ ∧ hcell h ⟨b, j, none⟩ = some (.int kd (xs.getD j 0)) := by
  rcases g.2 with ⟨h1, h2, h3⟩ | ⟨b, zs, h1, h2, h3, h4, h5, h6, h7⟩
  · rw [h2] at hj; simp at hj
  · refine ⟨b, h1, ?_⟩
    have := g.1
    have e : xs.getD j 0 = zs.getD j 0 := by
      rw [← h7, List.getD_eq_getElem?_getD, List.getD_eq_getElem?_getD, List.getElem?_take, if_pos hj]
    rw [e]
    exact h4.cell (by rw [h5]; exact Nat.lt_of_lt_of_le hj (Nat.mul_le_mul_left _ h6))
theorem GS.idx (g : GS kd h t k s xs ex lo) {i d : Nat} (hi : i < s.len) (hd : d < k) : ∃ b, s.a = some ⟨b, 0, none⟩ ∧ hcell h ⟨b, 0 + i * k + d, none⟩ = some (.int kd (xs.getD (k * i + d) 0)) := by
  have h1 : k * (i + 1) ≤ k * s.len := Nat.mul_le_mul_left _ hi
  rw [Nat.mul_add] at h1
  rw [Nat.zero_add, Nat.mul_comm i k]
  exact g.cell (by omega)
theorem GS.mono {ex' : List Nat} {lo' : Nat} (g : GS kd h t k s xs ex lo) (he : ∀ b ∈ ex', b ∈ ex) (hl : lo' ≤ lo) : GS kd h t k s xs ex' lo' := by
  refine ⟨g.1, ?_⟩
  rcases g.2 with g | ⟨b, zs, h1, h2, h3, h4, h5⟩
  · exact .inl g
  · exact .inr ⟨b, zs, h1, by omega, fun hm => h3 (he b hm), h4, h5⟩
theorem hsetL_K {b t o : Nat} : ∀ (ys xs : List Int) (h : H) (i : Nat), IK kd h b t xs → o + i + ys.length ≤ xs.length →
    Upd h b (hsetL h ⟨b, o, none⟩ i (ys.map (Value.int kd))) ∧ IK kd (hsetL h ⟨b, o, none⟩ i (ys.map (Value.int kd))) b t (splice xs (o + i) ys) := by
  intro ys
  induction ys with
  | nil => intro xs h i e hl; exact ⟨Upd.refl h b, by simpa [splice, hsetL] using e⟩
  | cons y ys ih =>
    intro xs h i e hl
    simp only [List.length_cons] at hl
    have hs1 := hset_blk (o := o + i) (.int kd y) e
    have e' : IK kd (hset h ⟨b, o + i, none⟩ (.int kd y)) b t (xs.set (o + i) y) := by
      unfold IK; rw [hs1]; congr 2; simp [VK, List.map_set]
    obtain ⟨u, e2⟩ := ih (xs.set (o + i) y) (hset h ⟨b, o + i, none⟩ (.int kd y)) (i + 1) e' (by simp; omega)
    simp only [List.map_cons, hsetL, add_mk]
    refine ⟨(hset_upd h b (o + i) _).trans u, ?_⟩
    rw [← splice_cons (by omega)]
    exact e2
theorem oneK (l : List Int) : ∀ v ∈ l.map (Value.int kd), v.oneCell' = true := by
  intro v hv
  simp only [List.mem_map] at hv
  obtain ⟨x, _, rfl⟩ := hv
  rfl
theorem AppG {bytes : Nat} {x : Sl} {ys : List Int} {K : Sl → H → Prop} (hz : ∀ n, zerosC Try.prog t n = VK kd (List.replicate (k * n) 0)) (g : GS kd h t k s xs ex lo)
    (hx : RdSl h x.a (x.len * k) (ys.map (Value.int kd))) (hb : (s.len + x.len) * bytes ≤ 140737488355328) (hex : ∀ e ∈ ex, e < h.size) (hlo : lo ≤ h.size)
    (q : ∀ s' h', s'.len = s.len + x.len → GS kd h' t k s' (xs ++ ys) ex lo → KX h ex lo h' → K s' h') : App Try.prog ⟨none, t, k, bytes⟩ h s x K := by
  have hyl : ys.length = x.len * k := by have := hx.1; simpa using this
  have hxl := g.1
  have elen : (xs ++ ys).length = k * (s.len + x.len) := by rw [List.length_append, hxl, hyl, Nat.mul_add, Nat.mul_comm x.len k]
  refine ⟨ys.map (Value.int kd), hx, ?_⟩
  by_cases hc : s.len + x.len ≤ s.cap
  · refine .inl ⟨hc, ?_, ?_⟩
    · rintro ad had j hj
      rcases g.2 with ⟨h1, h2, h3⟩ | ⟨b, zs, h1, h2, h3, h4, h5, h6, h7⟩
      · rw [h1] at had; cases had
      · rw [h1] at had
        simp only [Option.some.injEq] at had
        subst had
        simp only [List.length_map, hyl] at hj
        have hm : k * (s.len + x.len) ≤ k * s.cap := Nat.mul_le_mul_left _ hc
        rw [Nat.mul_add, Nat.mul_comm k x.len, Nat.mul_comm k s.len] at hm
        simp only [add_mk, Nat.zero_add]
        refine ⟨⟨_, h4.cell (i := s.len * k + j) (by omega)⟩, ?_⟩
        unfold IK at h4
        simp [hfroz, h4]
    · rcases g.2 with ⟨h1, h2, h3⟩ | ⟨b, zs, h1, h2, h3, h4, h5, h6, h7⟩
      · rw [h1]
        have hx0 : x.len = 0 := by omega
        have hy0 : ys = [] := by
          rw [hx0, Nat.zero_mul] at hyl
          exact List.length_eq_zero_iff.1 hyl
        subst hy0
        refine q ⟨none, s.len + x.len, s.cap⟩ h rfl ⟨by rw [elen], .inl ⟨rfl, by show s.len + x.len = 0; omega, h3⟩⟩ (KX.refl h ex lo)
      · rw [h1]
        simp only [add_mk, Nat.zero_add]
        have hm : k * (s.len + x.len) ≤ k * s.cap := Nat.mul_le_mul_left _ hc
        rw [Nat.mul_add, Nat.mul_comm k x.len, Nat.mul_comm k s.len] at hm
        obtain ⟨u, e⟩ := hsetL_K (o := s.len * k) ys zs h 0 h4 (by omega)
        rw [Nat.add_zero] at e
        generalize hsetL h ⟨b, s.len * k, none⟩ 0 (ys.map (Value.int kd)) = h2' at *
        refine q ⟨some ⟨b, 0, none⟩, s.len + x.len, s.cap⟩ h2' rfl ⟨elen, .inr ⟨b, _, rfl, h2, h3, e, by rw [splice_len (by omega)]; exact h5, hc, ?_⟩⟩ ⟨Nat.le_of_eq u.1.symm, fun i hi hh => u.2 i ?_⟩
        · refine ext0 ?_ fun i hi => ?_
          · rw [List.length_take, splice_len (by omega), elen]
            have : k * (s.len + x.len) ≤ k * s.cap := Nat.mul_le_mul_left _ hc
            simp only at *; omega
          · rw [List.length_take, splice_len (by omega)] at hi
            simp only at hi
            rw [List.getD_eq_getElem?_getD, List.getElem?_take, if_pos (show i < k * (s.len + x.len) by omega), ← List.getD_eq_getElem?_getD, splice_getD (by omega)]
            have e1 : k * (s.len + x.len) = s.len * k + x.len * k := by rw [Nat.mul_add, Nat.mul_comm k x.len, Nat.mul_comm k s.len]
            have e2 : xs.length = s.len * k := by rw [hxl, Nat.mul_comm]
            by_cases hh : i < s.len * k
            · rw [if_neg (by omega), List.getD_eq_getElem?_getD (l := xs ++ ys), List.getElem?_append_left (by omega), ← h7, List.getElem?_take, if_pos (by rw [Nat.mul_comm]; exact hh), ← List.getD_eq_getElem?_getD]
            · rw [if_pos (by omega), List.getD_eq_getElem?_getD (l := xs ++ ys), List.getElem?_append_right (by omega), e2, ← List.getD_eq_getElem?_getD]
        · intro e
          subst e
          rcases hh with hh | hh
          · omega
          · exact h3 hh
  · refine .inr ⟨by omega, hb, xs.map (Value.int kd), ⟨by rw [List.length_map, hxl, Nat.mul_comm], ?_, oneK _⟩, fun cap hcap => ?_⟩
    · intro j v hv
      have hj : j < k * s.len := by
        have := (List.getElem?_eq_some_iff.1 hv).1
        rw [List.length_map, hxl] at this; exact this
      obtain ⟨b, hb1, hb2⟩ := g.cell hj
      refine ⟨_, hb1, ?_⟩
      rw [add_mk, Nat.zero_add, hb2]
      rw [List.getElem?_map] at hv
      cases hh : xs[j]? with
      | none => rw [hh] at hv; simp at hv
      | some y =>
        rw [hh] at hv
        simp at hv
        subst hv
        rw [List.getD_eq_getElem?_getD, hh]; rfl
    · rw [hz]
      obtain ⟨es, hes⟩ : ∃ es : List Int, es = List.replicate (k * (cap - (s.len + x.len))) 0 := ⟨_, rfl⟩
      have hel : es.length = k * (cap - (s.len + x.len)) := by rw [hes, List.length_replicate]
      rw [← hes]
      have eb : ((xs.map (Value.int kd)).toArray ++ (ys.map (Value.int kd)).toArray ++ VK kd es) = VK kd (xs ++ ys ++ es) := by simp [VK]
      rw [eb]
      have kk := Kept.new h (VK kd (xs ++ ys ++ es)) t
      have e : IK kd (newB h (VK kd (xs ++ ys ++ es)) t) h.size t (xs ++ ys ++ es) := new_blk h _ _
      generalize newB h (VK kd (xs ++ ys ++ es)) t = h2 at *
      refine q ⟨some ⟨h.size, 0, none⟩, s.len + x.len, cap⟩ h2 rfl ⟨elen, .inr ⟨h.size, _, rfl, hlo, fun hm => absurd (hex _ hm) (by omega), e, ?_, hcap, ?_⟩⟩ kk.kx
      · rw [List.length_append, elen, hel, ← Nat.mul_add]; congr 1; simp only; omega
      · simp only
        rw [← elen, List.take_left']; rfl
/-- One element in a block of its own. -/
theorem RdSl.one {b n : Nat} {ys : List Int} (e : IK kd h b n ys) : RdSl h (some ⟨b, 0, none⟩) (1 * ys.length) (ys.map (Value.int kd)) := by
  refine ⟨by rw [List.length_map, Nat.one_mul], fun j v hv => ⟨_, rfl, ?_⟩, oneK _⟩
  rw [add_mk, Nat.zero_add, hcell_blk e]
  simpa [VK] using hv
end
end Go.Proofs.Ytfijchofplkcoaa
