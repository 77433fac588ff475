/-
  PmapNone: a space that no call made.
-/
import Derived.Test.YtfijchofplkcoaaGm
import Derived.Test.YtfijchofplkcoaaKm
import Derived.Test.YtfijchofplkcoaaIb
import Derived.Test.YtfijchofplkcoaaDc
set_option linter.unusedVariables false
set_option linter.unusedSimpArgs false
set_option maxRecDepth 100000
namespace Go.Proofs.Ytfijchofplkcoaa

/-- A space that no call made. -/
def NX (h : H) (p : Option Addr) : Prop := p = none ∨ ∃ b, p = some ⟨b, 0, none⟩ ∧ Zc h b
section
variable {h : H} {p : Option Addr}
theorem NX.kept {h' : H} (m : NX h p) (k : Kept h h') : NX h' p := by
  rcases m with rfl | ⟨b, rfl, e⟩
  · exact .inl rfl
  · exact .inr ⟨b, rfl, k.blk e⟩
theorem V188 {Q : Bool → H → Prop} (m : NX h p) (q : Q false h) : F188 p Q h := by
  rcases m with rfl | ⟨b, rfl, e⟩
  · rw [F188_eq]; exact q
  · exact Z188 e q
theorem V132 {Q : Int → H → Prop} (m : NX h p) (q : Q 0 h) : F132 p Q h := by
  rw [F132_eq]; exact V188 m q
theorem V136 {Q : Int → H → Prop} (m : NX h p) (q : Q (-1) h) : F136 p Q h := by
  rw [F136_eq]; exact V188 m q
theorem V139 {Q : Int → H → Prop} (m : NX h p) (q : Q 0 h) : F139 p Q h := by
  rw [F139_eq]; exact V188 m q
theorem V131 {v : Int} {Q : Int → Int → Bool → H → Prop} (m : NX h p) (q : ∀ h', Kept h h' → Q 0 0 false h') : F131 p v Q h := by
  rw [F131_eq]
  unfold B131
  refine Nw_intro fun a1 h2 ha1 k2 e2 => ?_
  rw [zero25] at e2
  refine V188 (m.kept k2) ?_
  simp only [Bool.not_false, Br_true, add_mk]
  have := put25 (a := 0) (b := 0) e2 (K := fun h22 => Ld (.i .i64) h22 ⟨a1, 0, none⟩ fun x23 => Ld (.i .i64) h22 ⟨a1, 1, none⟩ fun x24 => Q x23 x24 false h22) (fun h3 u3 e3 => ?_)
  · exact this
  · exact Ld_i (x := 0) (by rw [hcell_blk e3]; rfl) (Ld_i (x := 0) (by rw [hcell_blk e3]; rfl) (q h3 (u3.kept k2 (by omega))))
theorem V130 {v f r : Int} {Q : Int → H → Prop} (m : NX h p) (q : ∀ h', Kept h h' → Q 1 h') : F130 p v f r Q h := by
  rw [F130_eq]
  unfold B130
  refine Nw_intro fun a1 h2 ha1 k2 e2 => ?_
  refine JoinI (fun _ _ => False) (fun J hJ => ?_) (fun _ _ hf => hf.elim)
  simp only [add_mk]
  refine Ld_p (x := p) (by rw [hcell_blk e2]; rfl) (V188 (m.kept k2) ?_)
  simp only [Bool.not_false, Br_true]
  exact q h2 k2
theorem V192R {v : Int} {Q : Bool → H → Prop} (m : NX h p) (q : ∀ h', Kept h h' → Q false h') : F192Rem p v Q h := by
  rw [F192Rem_eq]
  refine V131 m fun h1 k1 => Q25 fun a h2 k2 ha e2 => ?_
  exact q h2 (k1.trans k2)
theorem V134 {v : Int} {Q : Bool → H → Prop} (m : NX h p) (q : ∀ h', Kept h h' → Q false h') : F134 p v Q h := by
  rw [F134_eq]; exact V192R m q
theorem V137 {v r : Int} {Q : Bool → H → Prop} (m : NX h p) (q : ∀ h', Kept h h' → Q false h') : F137 p v r Q h := by
  rw [F137_eq]
  refine C58 fun h1 k1 => Nw_intro fun a3 h2 ha3 k2 e2 => ?_
  have e2 : IL h2 a3 3 [0] := by
    have : zeroC Try.prog 3 = VI [0] := by kernel_rfl
    rw [this] at e2; exact e2
  simp only [add_mk]
  refine St_I e2 (by simp) fun h3 u3 e3 => ?_
  have k3 : Kept h h3 := k1.trans (u3.kept k2 (by omega))
  refine Ld_i (x := flagsN (lo3 r) true) (by rw [hcell_blk e3]; rfl) (Br_beq_int (fun _ => ?_) fun _ => ?_)
  · exact V134 (m.kept k3) fun h4 k4 => q h4 (k3.trans k4)
  · rw [F192Pro_eq]
    refine V131 (m.kept k3) fun h4 k4 => Q25 fun a h5 k5 ha e5 => ?_
    exact q h5 ((k3.trans k4).trans k5)
theorem V138 {v fl : Int} {Q : Int → H → Prop} (m : NX h p) (q : ∀ h', Kept h h' → Q 0 h') : F138 p v fl Q h := by
  rw [F138_eq]
  refine Nw_intro fun a1 h1 ha1 k1 e1 => Nw_intro fun a3 h2 ha3 k2 e2 => ?_
  have e2 : IL h2 a3 3 [0] := by
    have : zeroC Try.prog 3 = VI [0] := by kernel_rfl
    rw [this] at e2; exact e2
  simp only [add_mk]
  have hk1 := k1.1
  refine St_I e2 (by simp) fun h3 u3 e3 => ?_
  have k3 : Kept h h3 := u3.kept (k1.trans k2) (by omega)
  rw [F192Clr_eq]
  refine V131 (m.kept k3) fun h4 k4 => Q25 fun a h5 k5 ha e5 => ?_
  have e5' := (k4.trans k5).blk e3
  exact Ld_i (x := 0) (by rw [hcell_blk e5']; rfl) (q h5 ((k3.trans k4).trans k5))
theorem V200 {v : Value} {b : Nat} {t : Nat} {Q : H → Prop} (e : h[b]? = some (.cells #[.pointer p] t)) (m : NX h p) (q : ∀ h', Kept h h' → Q h') : F200 v ⟨b, 0, none⟩ Q h := by
  rw [F200_eq]
  refine Nw_intro fun a1 h1 ha1 k1 e1 => ?_
  simp only [add_mk]
  refine Ld_p (x := p) (by rw [hcell_blk (k1.blk e)]; rfl) (V188 (m.kept k1) ?_)
  exact q h1 k1
/-- A range over what calls nothing. -/
theorem RngN_none {call : Nat → (H → Prop) → H → Prop} {K : Nat → H → Prop} (hc : ∀ l h1 (J : H → Prop), Kept h h1 → (∀ h2, Kept h1 h2 → J h2) → call l J h1)
    (q : ∀ h', Kept h h' → h'[h.size]? = some (.deferred (some [])) → K h.size h') : RngN call h K := by
  intro r hr hp
  have s1 : ((h.push (.deferred (some []))).push (.loop r)).size = h.size + 2 := by simp
  have k1 : Kept h ((h.push (.deferred (some []))).push (.loop r)) := ⟨by omega, fun i hi => by
    rw [Array.getElem?_push_lt (by simp; omega), Array.getElem_push_lt hi]; simp [hi]⟩
  have e1 : ((h.push (.deferred (some []))).push (.loop r))[h.size + 1]? = some (.loop r) := by
    rw [show h.size + 1 = (h.push (.deferred (some []))).size by simp, Array.getElem?_push_size]
  have e0 : ((h.push (.deferred (some []))).push (.loop r))[h.size]? = some (.deferred (some [])) := by simp [Array.getElem?_push]
  refine hc _ _ _ k1 fun h2 k2 => ⟨k2.blk e1, q _ ⟨?_, fun i hi => ?_⟩ ?_⟩
  · have := k2.1; simp only [Array.size_setIfInBounds]; omega
  · rw [Array.getElem?_setIfInBounds_ne (by omega)]; exact (k1.trans k2).2 i hi
  · rw [Array.getElem?_setIfInBounds_ne (by omega)]; exact k2.blk e0
theorem TakeAll_ok {K : H → Prop} : ∀ {ds : List Nat} {h : H}, (∀ r ∈ ds, h[r]? = some (.deferred (some []))) → ds.Nodup → (∀ h', KL h ds h' → K h') → TakeAll ds h K
  | [], h, _, _, q => q h (KL.refl _ _)
  | r :: ds, h, hd, hn, q => by
    rw [List.nodup_cons] at hn
    refine ⟨hd r List.mem_cons_self, TakeAll_ok (fun x hx => ?_) hn.2 fun h' k => q h' ⟨?_, fun i hi hni => ?_⟩⟩
    · rw [Array.getElem?_setIfInBounds_ne (fun e => by subst e; exact hn.1 hx)]; exact hd x (List.mem_cons_of_mem _ hx)
    · have := k.1; simpa using this
    · rw [List.mem_cons, not_or] at hni
      rw [k.2 i (by simpa using hi) hni.2, Array.getElem?_setIfInBounds_ne (Ne.symm hni.1)]
end
theorem L39 {p0 p1 p2 p3 p4 : Int} {Q : Bool → H → Prop} {h : H} (q : ∀ h', Kept h h' → Q true h') : F39 p0 p1 p2 p3 p4 Q h := by
  rw [F39_eq]
  unfold B39
  refine Nw_intro fun a1 h1 ha1 k1 e1 => Nw_intro fun a3 h2 ha3 k2 e2 => Nw_intro fun a5 h3 ha5 k3 e3 => ?_
  have z4 : zeroC Try.prog 4 = #[.bool false] := by kernel_rfl
  have z195 : zeroC Try.prog 195 = #[.pointer none, .pointer none, .int .i64 0, .int .i64 0, .int .i64 0] := by kernel_rfl
  rw [z4] at e2
  rw [z195] at e3
  have k03 := (k1.trans k2).trans k3
  have e1 := (k2.trans k3).blk e1
  have e2 := k3.blk e2
  have l1 := (Array.getElem?_eq_some_iff.1 e1).1
  have l2 := (Array.getElem?_eq_some_iff.1 e2).1
  have hk1 := k1.1
  simp only [add_mk]
  -- the end
  have fin : ∀ (ds : List Nat) (h' : H), Kept h3 h' → (∀ r ∈ ds, h'[r]? = some (.deferred (some [])) ∧ h3.size ≤ r) → ds.Nodup → St h' ⟨a3, 0 + 0, none⟩ (.bool true) fun h78 => TakeAll ds h78 fun h79 => Ld .b h79 ⟨a3, 0 + 0, none⟩ fun x80 => Q x80 h79 := by
    intro ds h' k hd hn
    have e2' := k.blk e2
    refine St_intro e2' (by simp) fun h4 u4 e4 => TakeAll_ok (fun r hr => ?_) hn fun h5 k5 => ?_
    · have := hd r hr
      exact u4.blk this.1 (by omega)
    · have e5 := k5.blk e4 (fun hm => by have := (hd a3 hm).2; omega)
      refine Ld_b (x := true) (by rw [hcell_blk e5]; rfl) (q h5 ?_)
      have hk4 : Kept h h4 := u4.kept (k03.trans k) (by omega)
      refine k5.kept hk4 fun r hr => ?_
      have := (hd r hr).2
      have := k03.1
      omega
  refine Loop_intro (σ := List Nat × (Int × Unit)) (x := ([], (0, ()))) (fun c z h' => ∃ i : Nat, z.2.1 = (i : Int) ∧ c = 2 - i ∧ i ≤ 2 ∧ Kept h3 h' ∧ (∀ r ∈ z.1, h'[r]? = some (.deferred (some [])) ∧ h3.size ≤ r) ∧ z.1.Nodup) 2 ⟨0, rfl, rfl, by omega, Kept.refl _, by simp, by simp⟩ ?_
  rintro c ⟨ds, zz, u⟩ h4 ⟨i, hi, hc, hi2, k4, hds, hnd⟩
  simp only at hi hds hnd
  subst hi
  refine Br_dec (fun hlt => ?_) fun hge => ?_
  · have hlt : i < 2 := by simp only at hlt; omega
    have hwi : IntKind.wrap .i64 ((i : Int) + 1) = ((i + 1 : Nat) : Int) := by rw [wrap_i64'] <;> omega
    refine ⟨⟨Int.natCast_nonneg i, by simp only; omega⟩, ?_⟩
    have nx : ∀ h', Kept h3 h' → NX h' (List.getD [none, some (⟨a5, 0, none⟩ : Addr)] (Int.toNat (i : Int)) none) := by
      intro h' k
      have : i = 0 ∨ i = 1 := by omega
      rcases this with rfl | rfl
      · exact .inl rfl
      · exact .inr ⟨a5, rfl, k.blk e3⟩
    generalize List.getD [none, some (⟨a5, 0, none⟩ : Addr)] (Int.toNat (i : Int)) none = p at *
    have c2 : ∀ h', Kept h3 h' → hcell h' ⟨a1, 0 + 2 + 0, none⟩ = some (.int .i64 p2) := fun h' k => by rw [hcell_blk (k.blk e1)]; rfl
    have c3 : ∀ h', Kept h3 h' → hcell h' ⟨a1, 0 + 3 + 0, none⟩ = some (.int .i64 p3) := fun h' k => by rw [hcell_blk (k.blk e1)]; rfl
    have c4 : ∀ h', Kept h3 h' → hcell h' ⟨a1, 0 + 4 + 0, none⟩ = some (.int .i64 p4) := fun h' k => by rw [hcell_blk (k.blk e1)]; rfl
    refine Ld_i (c2 h4 k4) (V131 (nx h4 k4) fun h5 k5 => Q25 fun a h6 k6 ha e6 => ?_)
    have K6 := (k4.trans k5).trans k6
    simp only [Br_false]
    refine Ld_i (c2 h6 K6) (Ld_i (c3 h6 K6) (Ld_i (c4 h6 K6) (V130 (nx h6 K6) fun h7 k7 => ?_)))
    have K7 := K6.trans k7
    simp only [bne_self_eq_false, Br_false]
    refine Ld_i (c2 h7 K7) (V134 (nx h7 K7) fun h8 k8 => ?_)
    have K8 := K7.trans k8
    simp only [Br_false]
    refine Ld_i (c2 h8 K8) (Ld_i (c4 h8 K8) (V137 (nx h8 K8) fun h9 k9 => ?_))
    have K9 := K8.trans k9
    simp only [Br_false]
    refine Ld_i (c2 h9 K9) (Ld_i (c4 h9 K9) (V138 (nx h9 K9) fun h10 k10 => ?_))
    have K10 := K9.trans k10
    refine V132 (nx h10 K10) (V139 (nx h10 K10) ?_)
    simp only [show (IntKind.wrap .i64 (IntKind.wrap .i64 ((0 : Int) + 0) + 0) != 0) = false by decide, Br_false]
    refine V136 (nx h10 K10) ?_
    simp only [bne_self_eq_false, Br_false]
    rw [F149c_eq]
    refine Nw_intro fun b h11 hb k11 e11 => ?_
    have K11 := K10.trans k11
    refine RngN_none (fun l h12 J k12 hJ => V200 (k12.blk e11) (nx h12 (K11.trans k12)) hJ) fun h12 k12 e12 => ?_
    have K12 := K11.trans k12
    have K4 := (((((k5.trans k6).trans k7).trans k8).trans k9).trans k10).trans (k11.trans k12)
    refine ⟨2 - (i + 1), by omega, i + 1, hwi, rfl, hlt, K12, fun r hr => ?_, ?_⟩
    · rcases List.mem_cons.1 hr with rfl | hr
      · exact ⟨e12, K11.1⟩
      · exact ⟨K4.blk (hds r hr).1, (hds r hr).2⟩
    · rw [List.nodup_cons]
      refine ⟨fun hm => ?_, hnd⟩
      have h1 := (hds _ hm).1
      have h2 := (Array.getElem?_eq_some_iff.1 h1).1
      have h3 := (((((k5.trans k6).trans k7).trans k8).trans k9).trans k10).trans k11
      have := h3.1
      omega
  · simp only
    refine C75 (by omega) (by omega) fun bp pf h5 k5 hbp hpf m5 => ?_
    rw [F128_eq]
    refine N93 (.inl rfl) ?_
    simp only [beq_self_eq_true, Br_true, LetI]
    refine M61 (n := 1) (by omega) (by omega) fun bm bf h6 k6 hbm hbf m6 => ?_
    refine M93 m6 (Br_beq_int (fun e => absurd e (by decide)) fun _ => U76 (.inl rfl) ?_)
    simp only [LetI, show ((1 : Int) != 0) = true by decide, Br_true]
    refine C129 fun h7 k7 => ?_
    have K := (k5.trans k6).trans k7
    exact fin ds h7 (k4.trans K) (fun r hr => ⟨K.blk (hds r hr).1, (hds r hr).2⟩) hnd
end Go.Proofs.Ytfijchofplkcoaa
