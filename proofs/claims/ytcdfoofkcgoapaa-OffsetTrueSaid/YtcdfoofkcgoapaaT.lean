/- How far off nodes are, by what is known of each: the law's plain part. No condition. -/
import Derived.Test.YtcdfoofkcgoapaaOffsetHops
namespace Go.Proofs.Ytcdfoofkcgoapaa
set_option linter.unusedVariables false
open Go.ChangeShapes Go.WideShapes Go.ChangeAt Go.RowKit
/-- how far off each node is lies in block o -/
def Of (w : World) (o : Nat) (l : List Int) : Prop := w.heap[o]? = some (.cells (l.map V).toArray 2 (0, 0))
theorem Of.at {w : World} {d : Nat} {l : List Int} (h : Of w d l) {i : Nat} {z : Int} (hi : l[i]? = some z) : w.cell? ⟨d, i, none⟩ = some (.int .i64 z) := by
  rw [cell_of_block h]; simp [hi, V]
theorem Of.f {w : World} {d : Nat} {l : List Int} (h : Of w d l) (o : Nat) : w.frozen? ⟨d, o, none⟩ = false := frozen_of_block h o
theorem Of.keep {w w' : World} {d : Nat} {l : List Int} {S : Nat → Prop} (h : Of w d l) (g : Chg S w w') (hd : ¬ S d) : Of w' d l := Chg.keep g h hd
theorem Of.set {w : World} {d : Nat} {l : List Int} (h : Of w d l) (i : Nat) (z : Int) : Of (w.setCell ⟨d, i, none⟩ (.int .i64 z)) d (l.set i z) := by
  unfold Of; rw [block_set h i (.int .i64 z)]; simp [List.map_set, V]

structure OInv (m k : Nat) (l f : List Int) : Prop where
  ll : l.length = m
  fl : f.length = m
  lb : ∀ (i : Nat) (z : Int), l[i]? = some z → z ≤ 1001 * k
  fb : ∀ (i : Nat) (y : Int), f[i]? = some y → -40000 * (k : Int) ≤ y ∧ y ≤ 40000 * (k : Int)
  ok : ∀ (i : Nat) (z y : Int), l[i]? = some z → f[i]? = some y → 0 ≤ z → -z ≤ y ∧ y ≤ z
  l0 : l[0]? = some 0
  f0 : f[0]? = some 0

theorem OInv.le {m k : Nat} {l f : List Int} (h : OInv m k l f) (hk : k ≤ 300) (i : Nat) : l.getD i 0 ≤ 1000000000000 := by
  rw [List.getD]
  cases hz : l[i]? with
  | none => show (0 : Int) ≤ _; omega
  | some z => have := h.lb i z hz; show z ≤ _; omega
theorem OInv.up {m k : Nat} {l f : List Int} (h : OInv m k l f) : OInv m (k + 1) l f :=
  ⟨h.ll, h.fl, fun i z hz => by have := h.lb i z hz; omega, fun i y hy => by have := h.fb i y hy; omega, h.ok, h.l0, h.f0⟩
theorem OInv.first {m : Nat} (h1 : 2 ≤ m) (h2 : m ≤ 16) : OInv m 0 (newf (m : Int)) (List.replicate m 0) := by
  have hm : many (m : Int) = m := by unfold many; omega
  have e : newf (m : Int) = hopL m 1 0 0 := hopL_new m 0 h1 h2
  refine ⟨by rw [newf_len, hm], by simp, fun i z hz => ?_, fun i y hy => ?_, fun i z y hz hy h0 => ?_, by rw [e, hopL_at, if_pos (by omega)]; rfl, by rw [List.getElem?_replicate, if_pos (by omega)]⟩
  · rw [e, hopL_at] at hz
    split at hz
    · cases hz; unfold hopf; split
      · omega
      · split <;> omega
    · cases hz
  · rw [List.getElem?_replicate] at hy
    split at hy
    · cases hy; omega
    · cases hy
  · rw [List.getElem?_replicate] at hy
    split at hy
    · cases hy; omega
    · cases hy
theorem OInv.lose {m k : Nat} {l f : List Int} (h : OInv m k l f) (j : Int) : OInv m k (losef l j) f := by
  have at_ : ∀ (i : Nat) (z : Int), (losef l j)[i]? = some z → l[i]? = some z ∨ z = -1 := by
    intro i z hz
    unfold losef at hz
    split at hz
    · by_cases e : j.toNat = i
      · subst e
        by_cases hl : j.toNat < l.length
        · rw [List.getElem?_set_self hl] at hz; cases hz; exact .inr rfl
        · rw [List.set_eq_of_length_le (by omega)] at hz; exact .inl hz
      · rw [List.getElem?_set_ne e] at hz; exact .inl hz
    · exact .inl hz
  refine ⟨by rw [losef_len, h.ll], h.fl, fun i z hz => ?_, h.fb, fun i z y hz hy h0 => ?_, ?_, h.f0⟩
  · rcases at_ i z hz with h1 | h1
    · exact h.lb i z h1
    · omega
  · rcases at_ i z hz with h1 | h1
    · exact h.ok i z y h1 hy h0
    · omega
  · unfold losef
    split
    · rw [List.getElem?_set_ne (by omega)]; exact h.l0
    · exact h.l0
/-- a slot went by: each is off by at most one more. -/
theorem OInv.slot {m k : Nat} {l f g : List Int} (h : OInv m k l f) (hk : k ≤ 300) (hg : g.length = m) (g0 : g[0]? = some 0) (hd : ∀ (i : Nat) (x y : Int), g[i]? = some x → f[i]? = some y → y - 1 ≤ x ∧ x ≤ y + 1) : OInv m (k + 1) (slotf l) g := by
  have gf : ∀ (i : Nat) (x : Int), g[i]? = some x → ∃ y, f[i]? = some y := fun i x hx => by
    have : i < g.length := (List.getElem?_eq_some_iff.1 hx).1
    exact ⟨_, List.getElem?_eq_getElem (by rw [h.fl]; omega)⟩
  have sl : ∀ (i : Nat) (z : Int), (slotf l)[i]? = some z → ∃ u, l[i]? = some u ∧ z = Go.Proofs.Ytcdfoofkcgoapaa.up i u := fun i z hz => by
    rw [slotf_at] at hz
    cases hu : l[i]? with
    | none => rw [hu] at hz; cases hz
    | some u => rw [hu] at hz; cases hz; exact ⟨u, rfl, rfl⟩
  refine ⟨by rw [slotf_len, h.ll], hg, fun i z hz => ?_, fun i x hx => ?_, fun i z x hz hx h0 => ?_, ?_, g0⟩
  · obtain ⟨u, hu, rfl⟩ := sl i z hz
    have := h.lb i u hu
    unfold Go.Proofs.Ytcdfoofkcgoapaa.up; split <;> omega
  · obtain ⟨y, hy⟩ := gf i x hx
    have := h.fb i y hy
    have := hd i x y hx hy
    omega
  · obtain ⟨u, hu, rfl⟩ := sl i z hz
    obtain ⟨y, hy⟩ := gf i x hx
    have h1 := hd i x y hx hy
    have h2 := h.lb i u hu
    by_cases hi : i = 0
    · subst hi
      rw [g0] at hx; cases hx
      rw [h.l0] at hu; cases hu
      simp [Go.Proofs.Ytcdfoofkcgoapaa.up]
    · unfold Go.Proofs.Ytcdfoofkcgoapaa.up at h0 ⊢
      split at h0
      · rename_i hc
        have h3 := h.ok i u y hu hy hc.2
        rw [if_pos hc]; omega
      · rename_i hc
        exact absurd ⟨by omega, h0⟩ hc
  · rw [slotf_at, h.l0]; rfl
/-- a node was put right by another one. -/
theorem OInv.heard {m k : Nat} {l f : List Int} (h : OInv m k l f) (hk : k ≤ 300) {a b : Nat} {e x : Int} (ha : a < m) (hb : b < m) (a0 : 0 < a) (hab : a ≠ b) (he : -1000 < e ∧ e < 1000)
    (hx : ∀ y, f[b]? = some y → x = y + e) (hxb : ∀ y, f[a]? = some y → y - 30000 ≤ x ∧ x ≤ y + 30000) : OInv m (k + 1) (heardf l a b (max e (-e))) (f.set a x) := by
  have hl : lim (max e (-e)) = max e (-e) := by unfold lim; omega
  obtain ⟨zb, hzb⟩ : ∃ z, l[b]? = some z := ⟨_, List.getElem?_eq_getElem (by rw [h.ll]; omega)⟩
  obtain ⟨yb, hyb⟩ : ∃ y, f[b]? = some y := ⟨_, List.getElem?_eq_getElem (by rw [h.fl]; omega)⟩
  obtain ⟨ya, hya⟩ : ∃ y, f[a]? = some y := ⟨_, List.getElem?_eq_getElem (by rw [h.fl]; omega)⟩
  have hxe := hx yb hyb
  have hxy := hxb ya hya
  have hd : l.getD b 0 = zb := by rw [List.getD, hzb]; rfl
  have eq : heardf l a b (max e (-e)) = l.set a (if 0 ≤ zb then zb + max e (-e) else -1) := by
    unfold heardf
    rw [if_pos ⟨⟨by omega, by rw [h.ll]; omega⟩, ⟨by omega, by rw [h.ll]; omega⟩, by omega, by omega⟩]
    simp only [Int.toNat_natCast, hd, hl]
  rw [eq]
  have lzb := h.lb b zb hzb
  have lya := h.fb a ya hya
  refine ⟨by rw [List.length_set, h.ll], by rw [List.length_set, h.fl], fun i z hz => ?_, fun i y hy => ?_, fun i z y hz hy h0 => ?_, by rw [List.getElem?_set_ne (by omega)]; exact h.l0, by rw [List.getElem?_set_ne (by omega)]; exact h.f0⟩
  · by_cases hi : a = i
    · subst hi
      rw [List.getElem?_set_self (by rw [h.ll]; omega)] at hz
      cases hz
      split <;> omega
    · rw [List.getElem?_set_ne hi] at hz
      have := h.lb i z hz; omega
  · by_cases hi : a = i
    · subst hi
      rw [List.getElem?_set_self (by rw [h.fl]; omega)] at hy
      cases hy
      omega
    · rw [List.getElem?_set_ne hi] at hy
      have := h.fb i y hy; omega
  · by_cases hi : a = i
    · subst hi
      rw [List.getElem?_set_self (by rw [h.fl]; omega)] at hy
      rw [List.getElem?_set_self (by rw [h.ll]; omega)] at hz
      cases hy
      cases hz
      split at h0
      · rename_i hc
        have := h.ok b zb yb hzb hyb hc
        rw [if_pos hc]; omega
      · omega
    · rw [List.getElem?_set_ne hi] at hy hz
      exact h.ok i z y hz hy h0
theorem meas_is {a b e : Int} {k : Nat} (hk : k ≤ 300) (ha : -40000 * (k : Int) ≤ a ∧ a ≤ 40000 * (k : Int)) (hb : -40000 * (k : Int) ≤ b ∧ b ≤ 40000 * (k : Int)) (he : -1000 < e ∧ e < 1000) (h0 : -30000 ≤ b - a + e) (h1 : b - a + e ≤ 30000) :
    meas a b e 1000 = b - a + e := by
  unfold meas cutf lim; omega
theorem tdm (n m : Int) (h : 0 < m) : n.tdiv m * m + n.tmod m = n ∧ (0 ≤ n → 0 ≤ n.tmod m) ∧ (n ≤ 0 → n.tmod m ≤ 0) ∧ -m < n.tmod m ∧ n.tmod m < m := by
  refine ⟨by rw [Int.mul_comm]; exact Int.mul_tdiv_add_tmod n m, fun h0 => Int.tmod_nonneg _ h0, fun h0 => ?_, ?_, Int.tmod_lt_of_pos _ h⟩
  · have := Int.tmod_nonneg (a := -n) m (by omega)
    rw [Int.neg_tmod] at this; omega
  · have := Int.tmod_lt_of_pos (-n) h
    rw [Int.neg_tmod] at this; omega
theorem wrap_is (n : Int) : IntKind.i64.wrap n = wrap64 n := by rw [IntKind.wrap_i64]; unfold wrap64; rfl
theorem and_one (n : Int) : bits .and .i64 n 1 = n % 2 := by
  have h1 : (BitVec.ofInt 64 1).toNat = 2 ^ 1 - 1 := by decide
  have key : (BitVec.ofInt 64 n &&& BitVec.ofInt 64 1).toNat = (n % ((2 ^ 64 : Nat) : Int)).toNat % 2 ^ 1 := by
    rw [BitVec.toNat_and, BitVec.toNat_ofInt, h1, Nat.and_two_pow_sub_one_eq_mod]
  show IntKind.i64.wrap ((BitVec.ofInt 64 n &&& BitVec.ofInt 64 1).toNat : Nat) = n % 2
  rw [key, IntKind.wrap_i64]
  omega
theorem and_one_bd (n : Int) : 0 ≤ bits .and .i64 n 1 ∧ bits .and .i64 n 1 ≤ 1 := by rw [and_one]; omega
/-- in the midst of a slot: the nodes below j have drifted. -/
structure MidF (m : Nat) (f L : List Int) (j : Nat) : Prop where
  len : L.length = m
  l0 : L[0]? = some 0
  near : ∀ (i : Nat) (x y : Int), L[i]? = some x → f[i]? = some y → y - 1 ≤ x ∧ x ≤ y + 1
  rest : ∀ i, j ≤ i → L[i]? = f[i]?
theorem MidF.first {m k : Nat} {l f : List Int} (h : OInv m k l f) : MidF m f f 1 :=
  ⟨h.fl, h.f0, fun i x y hx hy => by rw [hx] at hy; cases hy; omega, fun _ _ => rfl⟩
theorem MidF.step {m j : Nat} {f L : List Int} {y x : Int} (h : MidF m f L j) (hj : 1 ≤ j) (hy : L[j]? = some y) (hx : y - 1 ≤ x ∧ x ≤ y + 1) : MidF m f (L.set j x) (j + 1) := by
  have hlt : j < L.length := (List.getElem?_eq_some_iff.1 hy).1
  refine ⟨by rw [List.length_set, h.len], by rw [List.getElem?_set_ne (by omega)]; exact h.l0, fun i u v hu hv => ?_, fun i hi => by rw [List.getElem?_set_ne (by omega)]; exact h.rest i (by omega)⟩
  by_cases e : j = i
  · subst e
    rw [List.getElem?_set_self hlt] at hu
    cases hu
    have := h.rest j (Nat.le_refl _)
    rw [hy, hv] at this
    cases this; exact hx
  · rw [List.getElem?_set_ne e] at hu
    exact h.near i u v hu hv
end Go.Proofs.Ytcdfoofkcgoapaa
