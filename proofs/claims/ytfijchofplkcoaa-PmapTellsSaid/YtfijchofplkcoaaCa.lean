/-
  Lemmas for reasoning over the heap predicates: blocks, loads, stores, branches; and integers' bits.
-/
import Derived.Test.YtfijchofplkcoaaRa
set_option linter.unusedVariables false
set_option linter.unusedSimpArgs false
namespace Go.Proofs.Ytfijchofplkcoaa

theorem Kept.blk {h h' : H} (k : Kept h h') {b : Nat} {o : Obj} (e : h[b]? = some o) : h'[b]? = some o := by
  have hb : b < h.size := (Array.getElem?_eq_some_iff.1 e).1
  rw [k.2 b hb, e]
theorem Kept.cell {h h' : H} (k : Kept h h') {a : Addr} {v : Value} (e : hcell h a = some v) : hcell h' a = some v := by
  unfold hcell at e ⊢
  cases hb : h[a.block]? with
  | none => rw [hb] at e; simp at e
  | some o => rw [hb] at e; rw [k.blk hb]; exact e
theorem Kept.new (h : H) (cs : Array Value) (t : TypeId) : Kept h (newB h cs t) :=
  ⟨by simp [newB], fun i hi => by simp [newB, Array.getElem?_push, Nat.ne_of_lt hi]⟩
theorem new_blk (h : H) (cs : Array Value) (t : TypeId) : (newB h cs t)[h.size]? = some (.cells cs t) := by simp [newB]

theorem Nw_intro {h : H} {cs : Array Value} {t : TypeId} {K : Addr → H → Prop}
    (k : ∀ b h', b = h.size → Kept h h' → h'[b]? = some (.cells cs t) → K ⟨b, 0, none⟩ h') : Nw h cs t K :=
  k _ _ rfl (Kept.new h cs t) (new_blk h cs t)

@[simp] theorem add_mk (b o i : Nat) : (⟨b, o, none⟩ : Addr).add i = ⟨b, o + i, none⟩ := by
  unfold Addr.add
  split <;> rename_i hh
  · simp [hh]
  · simp
theorem hcell_blk {h : H} {b o : Nat} {cs : Array Value} {t : TypeId} {f : Nat × Nat} (e : h[b]? = some (.cells cs t f)) : hcell h ⟨b, o, none⟩ = cs[o]? := by
  simp [hcell, e]

theorem Ld_i {k : IntKind} {h : H} {a : Addr} {x : Int} {K : Int → Prop} (e : hcell h a = some (.int k x)) (q : K x) : Ld (.i k) h a K := ⟨x, e, q⟩
theorem Ld_b {h : H} {a : Addr} {x : Bool} {K : Bool → Prop} (e : hcell h a = some (.bool x)) (q : K x) : Ld .b h a K := ⟨x, e, q⟩
theorem Ld_s {h : H} {a : Addr} {x : Sl} {K : Sl → Prop} (e : hcell h a = some (.slice x.a x.len x.cap)) (q : K x) : Ld .s h a K := ⟨x, e, q⟩
theorem Ld_p {h : H} {a : Addr} {x : Option Addr} {K : Option Addr → Prop} (e : hcell h a = some (.pointer x)) (q : K x) : Ld .p h a K := ⟨x, e, q⟩

/-- One block changed. -/
def Upd (h : H) (b : Nat) (h' : H) : Prop := h'.size = h.size ∧ ∀ i, i ≠ b → h'[i]? = h[i]?
theorem Upd.kept {h0 h h' : H} {b : Nat} (u : Upd h b h') (k : Kept h0 h) (hb : h0.size ≤ b) : Kept h0 h' :=
  ⟨u.1 ▸ k.1, fun i hi => (u.2 i (by omega)).trans (k.2 i hi)⟩
theorem Upd.blk {h h' : H} {b c : Nat} {o : Obj} (u : Upd h b h') (e : h[c]? = some o) (n : c ≠ b) : h'[c]? = some o := by rw [u.2 c n, e]
theorem hset_upd (h : H) (b o : Nat) (v : Value) : Upd h b (hset h ⟨b, o, none⟩ v) := by
  refine ⟨by simp [hset], fun i hi => ?_⟩
  simp [hset, Array.getElem?_modify, Ne.symm hi]
theorem hset_blk {h : H} {b o : Nat} {cs : Array Value} {t : TypeId} {f : Nat × Nat} (v : Value) (e : h[b]? = some (.cells cs t f)) :
    (hset h ⟨b, o, none⟩ v)[b]? = some (.cells (cs.setIfInBounds o v) t f) := by
  simp [hset, Array.getElem?_modify, e]
theorem St_intro {h : H} {b o : Nat} {cs : Array Value} {t : TypeId} {v : Value} {K : H → Prop} (e : h[b]? = some (.cells cs t)) (ho : o < cs.size)
    (k : ∀ h', Upd h b h' → h'[b]? = some (.cells (cs.setIfInBounds o v) t) → K h') : St h ⟨b, o, none⟩ v K := by
  refine ⟨⟨cs[o], ?_⟩, ?_, k _ (hset_upd h b o v) (hset_blk v e)⟩
  · rw [hcell_blk e]; exact Array.getElem?_eq_getElem ho
  · simp [hfroz, e]

theorem Br_dec {c : Prop} [Decidable c] {x y : Prop} (a : c → x) (b : ¬ c → y) : Br (decide c) x y := by
  by_cases h : c
  · simpa [Br, h] using a h
  · simpa [Br, h] using b h
theorem Br_if {b : Bool} {x y : Prop} (a : b = true → x) (c : b = false → y) : Br b x y := by
  cases b
  · exact c rfl
  · exact a rfl
theorem Br_Q {α : Type} (Q : α → H → Prop) (b : Bool) (x y : α) (h : H) : Br b (Q x h) (Q y h) = Q (cond b x y) h := by cases b <;> rfl
theorem Br_beq_int {a b : Int} {x y : Prop} (p : a = b → x) (q : a ≠ b → y) : Br (a == b) x y := by
  by_cases h : a = b
  · simpa [Br, h] using p h
  · have : (a == b) = false := by simp [h]
    rw [this]; exact q h
theorem Br_bne_int {a b : Int} {x y : Prop} (p : a ≠ b → x) (q : a = b → y) : Br (a != b) x y := by
  by_cases h : a = b
  · simpa [Br, h] using q h
  · have : (a != b) = true := by simp [h]
    rw [this]; exact p h
theorem Loop_intro {σ : Type} {body : (σ → H → Prop) → σ → H → Prop} {x : σ} {h : H} (I : Nat → σ → H → Prop) (k : Nat) (h0 : I k x h)
    (st : ∀ k x h, I k x h → body (fun x' h' => ∃ k', k' < k ∧ I k' x' h') x h) : LoopM body x h := ⟨I, k, h0, st⟩

theorem wrap_i64' (n : Int) (h : -9223372036854775808 ≤ n) (h' : n ≤ 9223372036854775807) : IntKind.wrap .i64 n = n := by
  simp [IntKind.wrap, IntKind.signed, IntKind.bits]; omega
theorem wrap_u64 (n : Int) : IntKind.wrap .u64 n = n % 18446744073709551616 := by
  simp [IntKind.wrap, IntKind.signed, IntKind.bits]
theorem wrap_u8 (n : Int) : IntKind.wrap .u8 n = n % 256 := by
  simp [IntKind.wrap, IntKind.signed, IntKind.bits]
theorem wf_i64 {n : Int} (h : (Lit.int .i64 n).wf = true) : -9223372036854775808 ≤ n ∧ n ≤ 9223372036854775807 := by
  simp [Lit.wf, IntKind.min, IntKind.max, IntKind.signed, IntKind.bits] at h
  omega
theorem wf_u64 {n : Int} (h : (Lit.int .u64 n).wf = true) : 0 ≤ n ∧ n < 18446744073709551616 := by
  simp [Lit.wf, IntKind.min, IntKind.max, IntKind.signed, IntKind.bits] at h
  omega
theorem wf_u8 {n : Int} (h : (Lit.int .u8 n).wf = true) : 0 ≤ n ∧ n < 256 := by
  simp [Lit.wf, IntKind.min, IntKind.max, IntKind.signed, IntKind.bits] at h
  omega

theorem bAnd_u (a b : Int) : bAnd .u64 a b = IntKind.wrap .u64 ((((a % ((2 ^ 64 : Nat) : Int)).toNat &&& (b % ((2 ^ 64 : Nat) : Int)).toNat : Nat)) : Int) := by
  show IntKind.wrap .u64 ((BitVec.ofInt 64 a &&& BitVec.ofInt 64 b).toNat : Int) = _
  rw [BitVec.toNat_and, BitVec.toNat_ofInt, BitVec.toNat_ofInt]
theorem bAnd_s (a b : Int) : bAnd .i64 a b = IntKind.wrap .i64 ((((a % ((2 ^ 64 : Nat) : Int)).toNat &&& (b % ((2 ^ 64 : Nat) : Int)).toNat : Nat)) : Int) := by
  show IntKind.wrap .i64 ((BitVec.ofInt 64 a &&& BitVec.ofInt 64 b).toNat : Int) = _
  rw [BitVec.toNat_and, BitVec.toNat_ofInt, BitVec.toNat_ofInt]
theorem bOr_u (a b : Int) : bOr .u64 a b = IntKind.wrap .u64 ((((a % ((2 ^ 64 : Nat) : Int)).toNat ||| (b % ((2 ^ 64 : Nat) : Int)).toNat : Nat)) : Int) := by
  show IntKind.wrap .u64 ((BitVec.ofInt 64 a ||| BitVec.ofInt 64 b).toNat : Int) = _
  rw [BitVec.toNat_or, BitVec.toNat_ofInt, BitVec.toNat_ofInt]
theorem bOr_s (a b : Int) : bOr .i64 a b = IntKind.wrap .i64 ((((a % ((2 ^ 64 : Nat) : Int)).toNat ||| (b % ((2 ^ 64 : Nat) : Int)).toNat : Nat)) : Int) := by
  show IntKind.wrap .i64 ((BitVec.ofInt 64 a ||| BitVec.ofInt 64 b).toNat : Int) = _
  rw [BitVec.toNat_or, BitVec.toNat_ofInt, BitVec.toNat_ofInt]
theorem bAnd_u64 (a b : Nat) (ha : a < 2 ^ 64) (hb : b < 2 ^ 64) : bAnd .u64 a b = ((a &&& b : Nat) : Int) := by
  rw [bAnd_u, wrap_u64]
  have e1 : (((a : Int) % ((2 ^ 64 : Nat) : Int)).toNat) = a := by omega
  have e2 : (((b : Int) % ((2 ^ 64 : Nat) : Int)).toNat) = b := by omega
  rw [e1, e2]
  have : a &&& b ≤ a := Nat.and_le_left
  omega
theorem bOr_u64 (a b : Nat) (ha : a < 2 ^ 64) (hb : b < 2 ^ 64) : bOr .u64 a b = ((a ||| b : Nat) : Int) := by
  rw [bOr_u, wrap_u64]
  have e1 : (((a : Int) % ((2 ^ 64 : Nat) : Int)).toNat) = a := by omega
  have e2 : (((b : Int) % ((2 ^ 64 : Nat) : Int)).toNat) = b := by omega
  rw [e1, e2]
  have : a ||| b < 2 ^ 64 := Nat.or_lt_two_pow ha hb
  omega
theorem bOr_i64 (a b : Nat) (ha : a < 2 ^ 63) (hb : b < 2 ^ 63) : bOr .i64 a b = ((a ||| b : Nat) : Int) := by
  rw [bOr_s]
  have e1 : (((a : Int) % ((2 ^ 64 : Nat) : Int)).toNat) = a := by omega
  have e2 : (((b : Int) % ((2 ^ 64 : Nat) : Int)).toNat) = b := by omega
  rw [e1, e2]
  have : a ||| b < 2 ^ 63 := Nat.or_lt_two_pow ha hb
  exact wrap_i64' _ (by omega) (by omega)
/-- A mask of the lowest bits of any number, of which only so many bits are looked at. -/
theorem bAnd_low (f : Int) (n c : Nat) (hn : n ≤ 63) (hc : c < 2 ^ n) : bAnd .i64 f c = (((f % (2 ^ n : Nat)).toNat &&& c : Nat) : Int) := by
  have p63 : (2 : Nat) ^ n ≤ 2 ^ 63 := Nat.pow_le_pow_right (by omega) hn
  rw [bAnd_s]
  have e2 : (((c : Int) % ((2 ^ 64 : Nat) : Int)).toNat) = c := by omega
  rw [e2]
  have key : ((f % ((2 ^ 64 : Nat) : Int)).toNat &&& c) = ((f % ((2 ^ n : Nat) : Int)).toNat &&& c) := by
    have h1 : (f % ((2 ^ n : Nat) : Int)).toNat = (f % ((2 ^ 64 : Nat) : Int)).toNat % 2 ^ n := by
      have d : ((2 ^ n : Nat) : Int) ∣ ((2 ^ 64 : Nat) : Int) := Int.natCast_dvd_natCast.2 (Nat.pow_dvd_pow 2 (by omega))
      have h0 : 0 ≤ f % ((2 ^ 64 : Nat) : Int) := Int.emod_nonneg _ (by decide)
      have := Int.emod_emod_of_dvd f d
      rw [← this]
      generalize f % ((2 ^ 64 : Nat) : Int) = g at *
      have hp : (0 : Int) < ((2 ^ n : Nat) : Int) := by
        have := Nat.pow_pos (n := n) (show 0 < 2 by omega)
        omega
      obtain ⟨g', rfl⟩ := Int.eq_ofNat_of_zero_le h0
      simp only [Int.toNat_natCast]
      rw [← Int.natCast_emod, Int.toNat_natCast]
    rw [h1]
    generalize (f % ((2 ^ 64 : Nat) : Int)).toNat = g
    have h2 : g &&& c < 2 ^ n := Nat.lt_of_le_of_lt Nat.and_le_right hc
    have h3 := Nat.and_mod_two_pow (a := g) (b := c) (n := n)
    rw [Nat.mod_eq_of_lt h2, Nat.mod_eq_of_lt hc] at h3
    exact h3
  rw [key]
  have : ((f % ((2 ^ n : Nat) : Int)).toNat &&& c) ≤ c := Nat.and_le_right
  exact wrap_i64' _ (by omega) (by omega)
end Go.Proofs.Ytfijchofplkcoaa
