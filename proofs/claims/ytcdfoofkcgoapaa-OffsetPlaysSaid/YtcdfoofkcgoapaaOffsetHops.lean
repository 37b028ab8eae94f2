/- What the Go text of 'OffsetHops' does, walked: it returns true, and nothing that was there has turned. No condition but what a row says of its arguments. -/
import Derived.Test.YtcdfoofkcgoapaaOffsetBoth
namespace Go.Proofs.Ytcdfoofkcgoapaa
set_option linter.unusedVariables false
open Go.ChangeShapes Go.WideShapes Go.ChangeAt Go.RowKit
/-- what is known when i nodes of m have been put right, and s slots went by. -/
def hopf (i : Nat) (q s : Int) (j : Nat) : Int := if j = 0 then 0 else if j < i then j * q + s else -1
def hopL (m i : Nat) (q s : Int) : List Int := (List.range m).map (hopf i q s)
theorem hopL_len (m i : Nat) (q s : Int) : (hopL m i q s).length = m := by simp [hopL]
theorem hopL_at (m i : Nat) (q s : Int) (j : Nat) : (hopL m i q s)[j]? = if j < m then some (hopf i q s j) else none := by
  unfold hopL
  rw [List.getElem?_map]
  by_cases h : j < m
  · rw [if_pos h, List.getElem?_range h]; rfl
  · rw [if_neg h, List.getElem?_eq_none (by simpa using h)]; rfl
theorem mul_bd (j : Nat) (q : Int) (hj : j ≤ 16) (h0 : 0 ≤ q) (h1 : q ≤ 1000) : 0 ≤ (j : Int) * q ∧ (j : Int) * q ≤ 16000 := by
  constructor
  · exact Int.mul_nonneg (by omega) h0
  · calc (j : Int) * q ≤ 16 * q := Int.mul_le_mul_of_nonneg_right (by omega) h0
      _ ≤ 16000 := by omega
theorem hopf_bd (m i : Nat) (q s : Int) (hm : m ≤ 16) (h0 : 0 ≤ q) (h1 : q ≤ 1000) (s0 : 0 ≤ s) (s1 : s ≤ 1000) (j : Nat) (hj : j < m) : -1 ≤ hopf i q s j ∧ hopf i q s j ≤ 17000 := by
  have := mul_bd j q (by omega) h0 h1
  unfold hopf
  split
  · omega
  · split <;> omega
theorem hopL_le (m i : Nat) (q s : Int) (hm : m ≤ 16) (h0 : 0 ≤ q) (h1 : q ≤ 1000) (s0 : 0 ≤ s) (s1 : s ≤ 1000) (j : Nat) : (hopL m i q s).getD j 0 ≤ 1000000000000 := by
  rw [List.getD, hopL_at]
  by_cases h : j < m
  · rw [if_pos h]
    have := hopf_bd m i q s hm h0 h1 s0 s1 j h
    show hopf i q s j ≤ _
    omega
  · rw [if_neg h]; show (0 : Int) ≤ _; omega
theorem hopL_new (m : Nat) (q : Int) (h1 : 2 ≤ m) (h2 : m ≤ 16) : newf (m : Int) = hopL m 1 q 0 := by
  have hm : many (m : Int) = m := by unfold many; omega
  apply List.ext_getElem?
  intro j
  rw [hopL_at]
  by_cases hj : j < m
  · rw [if_pos hj]
    cases j with
    | zero => rfl
    | succ j => rw [newf_at _ _ (by omega)]; unfold hopf; rw [if_neg (by omega), if_neg (by omega)]
  · rw [if_neg hj, List.getElem?_eq_none (by rw [newf_len]; omega)]
theorem hopL_heard (m i : Nat) (q : Int) (hi : 1 ≤ i) (him : i < m) (h0 : 0 ≤ q) (h1 : q ≤ 1000) : heardf (hopL m i q 0) (i : Int) ((i : Int) - 1) q = hopL m (i + 1) q 0 := by
  have hl : lim q = q := by unfold lim; omega
  have e1 : ((i : Int) - 1).toNat = i - 1 := by omega
  have hb : (hopL m i q 0).getD (i - 1) 0 = ((i - 1 : Nat) : Int) * q := by
    rw [List.getD, hopL_at, if_pos (by omega)]
    show hopf i q 0 (i - 1) = _
    unfold hopf
    by_cases hz : i - 1 = 0
    · rw [if_pos hz, hz]; simp
    · rw [if_neg hz, if_pos (by omega)]; omega
  have hnn : 0 ≤ ((i - 1 : Nat) : Int) * q := Int.mul_nonneg (by omega) h0
  unfold heardf
  rw [hopL_len, if_pos ⟨⟨by omega, by omega⟩, ⟨by omega, by omega⟩, by omega, by omega⟩, e1, hb, if_pos hnn, hl]
  simp only [Int.toNat_natCast]
  apply List.ext_getElem?
  intro j
  rw [hopL_at]
  by_cases hji : j = i
  · subst hji
    rw [List.getElem?_set_self (by rw [hopL_len]; omega), if_pos him]
    congr 1
    unfold hopf
    rw [if_neg (by omega), if_pos (by omega)]
    have : ((j : Int)) = ((j - 1 : Nat) : Int) + 1 := by omega
    rw [this, Int.add_mul]; omega
  · rw [List.getElem?_set_ne (by omega), hopL_at]
    by_cases hj : j < m
    · rw [if_pos hj, if_pos hj]
      congr 1
      unfold hopf
      by_cases hz : j = 0
      · rw [if_pos hz, if_pos hz]
      · rw [if_neg hz, if_neg hz]
        by_cases hlt : j < i
        · rw [if_pos hlt, if_pos (by omega)]
        · rw [if_neg hlt, if_neg (by omega)]
    · rw [if_neg hj, if_neg hj]
theorem hopL_slot (m : Nat) (q s : Int) (hm : m ≤ 16) (h0 : 0 ≤ q) (h1 : q ≤ 1000) (s0 : 0 ≤ s) (s1 : s ≤ 900) : slotf (hopL m m q s) = hopL m m q (s + 1) := by
  apply List.ext_getElem?
  intro j
  rw [slotf_at, hopL_at, hopL_at]
  by_cases hj : j < m
  · rw [if_pos hj, if_pos hj, Option.map_some]
    congr 1
    have := mul_bd j q (by omega) h0 h1
    unfold hopf up
    by_cases hz : j = 0
    · rw [if_pos hz, if_pos hz, if_neg (by omega)]
    · rw [if_neg hz, if_neg hz, if_pos hj, if_pos hj, if_pos (by omega)]; omega
  · rw [if_neg hj, if_neg hj]; rfl
theorem bnd_yes {l : List Int} {j : Nat} {z : Int} (h : l[j]? = some z) (hz : 0 ≤ z) : bnd l (j : Int) = (z, true) := by
  have hj : j < l.length := (List.getElem?_eq_some_iff.1 h).1
  have hd : l.getD j 0 = z := by rw [List.getD, h]; rfl
  unfold bnd
  rw [Int.toNat_natCast, hd, if_pos ⟨by omega, by omega, hz⟩]
theorem bnd_no {l : List Int} {j : Nat} {z : Int} (h : l[j]? = some z) (hz : z < 0) : bnd l (j : Int) = (0, false) := by
  have hd : l.getD j 0 = z := by rw [List.getD, h]; rfl
  unfold bnd
  rw [Int.toNat_natCast, hd, if_neg (fun h => by omega)]
theorem losef_len (l : List Int) (i : Int) : (losef l i).length = l.length := by unfold losef; split <;> simp
theorem heardf_len (l : List Int) (i j e : Int) : (heardf l i j e).length = l.length := by unfold heardf; split <;> simp
theorem set_le {l : List Int} {M v : Int} (h : ∀ i, l.getD i 0 ≤ M) (hv : v ≤ M) (k i : Nat) : (l.set k v).getD i 0 ≤ M := by
  rw [List.getD]
  by_cases hk : k = i
  · subst hk
    by_cases hl : k < l.length
    · rw [List.getElem?_set_self hl]; exact hv
    · have := h k
      rw [List.getD] at this
      rw [List.set_eq_of_length_le (by omega)]; exact this
  · rw [List.getElem?_set_ne hk]
    have := h i
    rw [List.getD] at this; exact this
theorem losef_le {l : List Int} {M : Int} (hM : 0 ≤ M) (h : ∀ i, l.getD i 0 ≤ M) (j : Int) (i : Nat) : (losef l j).getD i 0 ≤ M := by
  unfold losef
  split
  · exact set_le h (by omega) _ _
  · exact h i
def wantf (q s : Int) (j : Nat) : Int := if j = 0 then 0 else j * q + s
theorem hopL_bnd (m : Nat) (q s : Int) (j : Nat) (hj : j < m) (h0 : 0 ≤ q) (s0 : 0 ≤ s) : bnd (hopL m m q s) (j : Int) = (wantf q s j, true) := by
  have e : hopf m q s j = wantf q s j := by unfold hopf wantf; rw [if_pos hj]
  refine bnd_yes (by rw [hopL_at, if_pos hj, e]) ?_
  have := Int.mul_nonneg (a := (j : Int)) (b := q) (by omega) h0
  unfold wantf; split <;> omega
theorem last_no (m : Nat) (q s : Int) (hm : 2 ≤ m) : bnd (heardf (losef (hopL m m q s) 1) ((m : Int) - 1) 1 q) ((m : Int) - 1) = (0, false) := by
  have e1 : losef (hopL m m q s) 1 = (hopL m m q s).set 1 (-1) := rfl
  have e2 : ((m : Int) - 1) = ((m - 1 : Nat) : Int) := by omega
  rw [e1, e2]
  have hl : ((hopL m m q s).set 1 (-1)).length = m := by rw [List.length_set, hopL_len]
  have h1 : ((hopL m m q s).set 1 (-1))[1]? = some (-1) := by rw [List.getElem?_set_self (by rw [hopL_len]; omega)]
  have hd : ((hopL m m q s).set 1 (-1)).getD 1 0 = -1 := by rw [List.getD, h1]; rfl
  unfold heardf
  rw [hl]
  by_cases hm2 : m = 2
  · subst hm2
    rw [if_neg (fun h => by have := h.2.2.2; omega)]
    exact bnd_no h1 (by omega)
  · rw [if_pos ⟨⟨by omega, by omega⟩, ⟨by omega, by omega⟩, by omega, by omega⟩]
    rw [show ((1 : Int)).toNat = 1 from rfl, hd, if_neg (by omega), Int.toNat_natCast]
    exact bnd_no (z := -1) (by rw [List.getElem?_set_self (by rw [hl]; omega)]) (by omega)
set_option maxRecDepth 100000 in
set_option maxHeartbeats 2000000 in
theorem offsetHops_walk (n e f : Int) (w : World) : Calls Try.prog 8 #[.int .i64 n, .int .i64 e, .int .i64 f] w (PTrue w) := by
  obtain ⟨p0, hp0, he⟩ := umod n 15 (by omega) (by omega)
  obtain ⟨q, hq, hf⟩ := umod e 1001 (by omega) (by omega)
  obtain ⟨s, hs, hh⟩ := umod f 50 (by omega) (by omega)
  go_enter Try.func8, Try.ntmps8
  go_wp2_with fail
  (try rw [he]); (try rw [hf]); (try rw [hh])
  clear he hf hh
  obtain ⟨m, hm⟩ : ∃ m : Nat, (m : Int) = 2 + p0 := ⟨2 + p0, by omega⟩
  rw [← hm]
  have hm2 : 2 ≤ m := by omega
  have hm16 : m ≤ 16 := by omega
  clear hm hp0
  refine (new_any _ _).mono ?_
  rintro e w1 ⟨b, d, rfl, hb, hd, k1, g1⟩
  rw [hopL_new m q hm2 hm16] at k1
  go_wp2_with fail
  go_loopw [8] (fun i wr => ∃ (k : Nat), 1 ≤ k ∧ k ≤ m ∧ i = .int .i64 k ∧ Pk wr b d (hopL m k q 0) ∧ Chg (fun k => w.heap.size ≤ k) w wr) (fun i _ => m - (intOf i).toNat)
  case atStart => exact ⟨1, by omega, by omega, rfl, k1, g1.none⟩
  case round =>
    obtain ⟨k, hk1, hkm, rfl, kk, hg⟩ := hrel
    clear k1 g1
    by_cases hlt : k < m
    · go_wp2_with fail
      refine (heard_ex _ _ _ _ _ _ _ _ kk (by rw [hopL_len]; omega) (hopL_le m k q 0 (by omega) (by omega) (by omega) (by omega) (by omega)) (hopL_heard m k q hk1 hlt (by omega) (by omega))).mono ?_
      rintro e w2 ⟨rfl, k2, g2⟩
      go_wp2_with fail
      go_roundw
      case rel => exact ⟨k + 1, by omega, by omega, by go_num, k2, hg.trans (g2.one hd)⟩
      case measure => simp [intOf]; omega
    · obtain rfl : k = m := by omega
      go_wp2_with fail
      go_loopw [44] (fun i wr => ∃ (j : Nat), j ≤ s ∧ i = .int .i64 j ∧ Pk wr b d (hopL k k q j) ∧ Chg (fun k => w.heap.size ≤ k) w wr) (fun i _ => s - (intOf i).toNat)
      case atStart => exact ⟨0, by omega, rfl, kk, hg⟩
      case round =>
        obtain ⟨j, hj, rfl, k3, hg3⟩ := hrel
        clear kk hg
        by_cases hjs : j < s
        · go_wp2_with fail
          refine (slot_ex _ _ _ _ _ k3 (by rw [hopL_len]; omega) (hopL_le k k q j (by omega) (by omega) (by omega) (by omega) (by omega)) (hopL_slot k q j (by omega) (by omega) (by omega) (by omega) (by omega))).mono ?_
          rintro e w2 ⟨rfl, k2, g2⟩
          have k4 : Pk w2 b d (hopL k k q ((j + 1 : Nat) : Int)) := by
            have : ((j + 1 : Nat) : Int) = (j : Int) + 1 := by omega
            rw [this]; exact k2
          clear k2
          go_wp2_with fail
          go_roundw
          case rel => exact ⟨j + 1, by omega, by go_num, k4, hg3.trans (g2.one hd)⟩
          case measure => simp [intOf]; omega
        · obtain rfl : j = s := by omega
          go_wp2_with fail
          go_loopw [50] (fun i wr => ∃ (t : Nat), t ≤ k ∧ i = .int .i64 t ∧ Pk wr b d (hopL k k q j) ∧ Chg (fun k => w.heap.size ≤ k) w wr) (fun i _ => k - (intOf i).toNat)
          case atStart => exact ⟨0, by omega, rfl, k3, hg3⟩
          case round =>
            obtain ⟨t, ht, rfl, k5, hg5⟩ := hrel
            clear k3 hg3
            by_cases htk : t < k
            · go_wp2_with fail
              have hbn := hopL_bnd k q j t htk (by omega) (by omega)
              obtain ⟨pb0, pb1⟩ := mul_bd t q (by omega) (by omega) (by omega)
              refine (bound_ex _ _ _ _ _ _ _ k5 (by rw [hopL_len]; omega) hbn).mono ?_
              rintro e w9 ⟨rfl, rfl⟩
              clear hbn
              by_cases ht0 : t = 0
              · subst ht0
                rw [show wantf q j 0 = 0 from rfl]
                go_wp2_with fail
                go_roundw
                case rel => exact ⟨0 + 1, by omega, by go_num, k5, hg5⟩
                case measure => simp [intOf]; omega
              · rw [show wantf q j t = t * q + j from by unfold wantf; rw [if_neg ht0]]
                have bt : ((t : Int) == 0) = false := by rw [beq_eq_false_iff_ne]; omega
                go_wp2_with fail
                go_roundw
                case rel => exact ⟨t + 1, by omega, by go_num, k5, hg5⟩
                case measure => simp [intOf]; omega
            · clear ht
              go_wp2_with fail
              refine (lose_ex _ _ _ _ _ _ k5 (by rw [hopL_len]; omega) rfl).mono ?_
              rintro e w6 ⟨rfl, k6, g6⟩
              go_wp2_with fail
              refine (bound_ex _ _ _ _ _ 0 false k6 (by rw [losef_len, hopL_len]; omega) (bnd_no (j := 1) (z := -1) (by show (List.set _ 1 (-1))[1]? = _; rw [List.getElem?_set_self (by rw [hopL_len]; omega)]) (by omega))).mono ?_
              rintro e w9 ⟨rfl, rfl⟩
              go_wp2_with fail
              refine (heard_ex _ _ _ _ _ _ _ _ k6 (by rw [losef_len, hopL_len]; omega) (losef_le (by omega) (hopL_le k k q j (by omega) (by omega) (by omega) (by omega) (by omega)) 1) rfl).mono ?_
              rintro e w7 ⟨rfl, k7, g7⟩
              go_wp2_with fail
              refine (bound_ex _ _ _ _ _ 0 false k7 (by rw [heardf_len, losef_len, hopL_len]; omega) (last_no k q j (by omega))).mono ?_
              rintro e w9 ⟨rfl, rfl⟩
              go_wp2_with fail
              refine (awake_true _).mono ?_
              rintro e w8 ⟨rfl, g8⟩
              go_wp2_with fail
              go_ret
              exact ⟨rfl, (((hg5.trans (g6.one hd)).trans (g7.one hd)).trans g8.none).fresh⟩
end Go.Proofs.Ytcdfoofkcgoapaa
