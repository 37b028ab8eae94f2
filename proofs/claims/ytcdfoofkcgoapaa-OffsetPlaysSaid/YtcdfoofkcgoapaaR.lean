/- What each method of the document's proof of offsets does. No condition but that its numbers are within bounds. -/
import Derived.Test.YtcdfoofkcgoapaaL
import Derived.Laws.AppendOwn
namespace Go.Proofs.Ytcdfoofkcgoapaa
set_option linter.unusedVariables false
open Go.ChangeShapes Go.WideShapes Go.ChangeAt Go.RowKit
/-- the document's proof lies in block b, its bounds in block d -/
structure Rk (w : World) (b d cap : Nat) (l : List Int) : Prop where
  head : w.heap[b]? = some (.cells #[.slice (some ⟨d, 0, none⟩) l.length cap] 48 (0, 0))
  data : ∃ arr : Array Value, w.heap[d]? = some (.cells arr 2 (0, 0)) ∧ l.length ≤ arr.size ∧ ∀ (i : Nat) (z : Int), l[i]? = some z → arr[i]? = some (.int .i64 z)
  ne : b ≠ d
theorem Rk.c {w : World} {b d cap : Nat} {l : List Int} (h : Rk w b d cap l) : w.cell? ⟨b, 0, none⟩ = some (.slice (some ⟨d, 0, none⟩) l.length cap) := by
  rw [cell_of_block h.head]; rfl
theorem Rk.at {w : World} {b d cap : Nat} {l : List Int} (h : Rk w b d cap l) {i : Nat} {z : Int} (hi : l[i]? = some z) : w.cell? ⟨d, i, none⟩ = some (.int .i64 z) := by
  obtain ⟨arr, h1, _, h2⟩ := h.data
  rw [cell_of_block h1, h2 i z hi]
theorem Rk.f {w : World} {b d cap : Nat} {l : List Int} (h : Rk w b d cap l) (o : Nat) : w.frozen? ⟨d, o, none⟩ = false := by
  obtain ⟨arr, h1, _⟩ := h.data
  exact frozen_of_block h1 o
theorem Rk.keep {w w' : World} {b d cap : Nat} {l : List Int} {S : Nat → Prop} (h : Rk w b d cap l) (g : Chg S w w') (hb : ¬ S b) (hd : ¬ S d) : Rk w' b d cap l := by
  obtain ⟨arr, h1, h2⟩ := h.data
  exact ⟨Chg.keep g h.head hb, ⟨arr, Chg.keep g h1 hd, h2⟩, h.ne⟩
theorem Rk.set {w : World} {b d cap : Nat} {l : List Int} (h : Rk w b d cap l) (i : Nat) (z : Int) : Rk (w.setCell ⟨d, i, none⟩ (.int .i64 z)) b d cap (l.set i z) := by
  obtain ⟨arr, h1, h3, h2⟩ := h.data
  refine ⟨?_, ⟨_, block_set h1 i (.int .i64 z), by simpa using h3, fun j u hj => ?_⟩, h.ne⟩
  · have := Chg.keep (chg1 w d i (.int .i64 z)) h.head h.ne
    simpa using this
  · by_cases e : i = j
    · subst e
      by_cases hl : i < l.length
      · rw [List.getElem?_set_self hl] at hj; cases hj
        exact set_self _ _ _ (by omega)
      · rw [List.set_eq_of_length_le (by omega)] at hj
        have := (List.getElem?_eq_some_iff.1 hj).1; omega
    · rw [List.getElem?_set_ne e] at hj
      rw [set_other _ _ _ _ e]; exact h2 j u hj
theorem rhas_any (w : World) (b d cap : Nat) (l : List Int) (i : Int) (h : Rk w b d cap l) (hl : l.length ≤ 16) (v : Bool) (hv : decide (0 ≤ i ∧ i < l.length) = v) :
   Calls Try.prog 27 #[.pointer (some ⟨b, 0, none⟩), .int .i64 i] w fun r w' => r = .returned (.bool v) ∧ w' = w := by
  have c := h.c
  clear h
  by_cases h0 : 0 ≤ i
  · by_cases h1 : i < l.length
    all_goals
      go_enter Try.func27, Try.ntmps27
      go_wp2
      go_ret
      exact ⟨ret_bool (by rw [← hv]; simp; omega), rfl⟩
  · go_enter Try.func27, Try.ntmps27
    go_wp2
    go_ret
    exact ⟨ret_bool (by rw [← hv]; simp; omega), rfl⟩
theorem rbound_any (w : World) (b d cap : Nat) (l : List Int) (i : Int) (h : Rk w b d cap l) (hl : l.length ≤ 16) :
   Calls Try.prog 23 #[.pointer (some ⟨b, 0, none⟩), .int .i64 i] w fun r w' => r = .returned (.tuple #[.int .i64 (bnd l i).1, .bool (bnd l i).2]) ∧ w' = w := by
  by_cases h0 : 0 ≤ i ∧ i < l.length
  · obtain ⟨h0, h1⟩ := h0
    obtain ⟨n, rfl⟩ := Int.eq_ofNat_of_zero_le h0
    have hn : n < l.length := by omega
    obtain ⟨z, hz⟩ : ∃ z, l[n]? = some z := ⟨_, List.getElem?_eq_getElem hn⟩
    have c := h.c
    have cz := h.at hz
    have e : bnd l (n : Int) = if 0 ≤ z then (z, true) else (0, false) := by
      have : l.getD n 0 = z := by rw [List.getD, hz]; rfl
      unfold bnd
      simp only [Int.toNat_natCast, this]
      by_cases hz0 : 0 ≤ z
      · rw [if_pos ⟨h0, h1, hz0⟩, if_pos hz0]
      · rw [if_neg (fun h => hz0 h.2.2), if_neg hz0]
    have E := Lib.hid e
    have H := Lib.hid h
    clear e h
    by_cases hz0 : z < 0
    · have e2 : bnd l (n : Int) = (0, false) := by rw [E.out, if_neg (by omega)]
      have E2 := Lib.hid e2
      clear e2 hz
      go_enter Try.func23, Try.ntmps23
      go_wp2_with fail
      refine (rhas_any _ _ _ _ _ _ H.out hl true (by simp; omega)).mono ?_
      rintro r w' ⟨rfl, rfl⟩
      go_wp2_with fail
      go_ret2
      exact ⟨ret2 E2.out.symm, rfl⟩
    · have e2 : bnd l (n : Int) = (z, true) := by rw [E.out, if_pos (by omega)]
      have E2 := Lib.hid e2
      clear e2 hz
      go_enter Try.func23, Try.ntmps23
      go_wp2_with fail
      refine (rhas_any _ _ _ _ _ _ H.out hl true (by simp; omega)).mono ?_
      rintro r w' ⟨rfl, rfl⟩
      go_wp2_with fail
      go_ret2
      exact ⟨ret2 E2.out.symm, rfl⟩
  · have e2 : bnd l i = (0, false) := by unfold bnd; rw [if_neg (fun h => h0 ⟨h.1, h.2.1⟩)]
    have E2 := Lib.hid e2
    have H := Lib.hid h
    clear e2 h
    go_enter Try.func23, Try.ntmps23
    go_wp2_with fail
    refine (rhas_any _ _ _ _ _ _ H.out hl false (by simpa using h0)).mono ?_
    rintro r w' ⟨rfl, rfl⟩
    go_wp2_with fail
    go_ret2
    exact ⟨ret2 E2.out.symm, rfl⟩
def RSet (b d cap : Nat) (w : World) (l : List Int) (e : Ending) (w' : World) : Prop := e = .returned (.tuple #[]) ∧ Rk w' b d cap l ∧ Chg (· = d) w w'
theorem rset {w w' : World} {b d cap : Nat} {l l' : List Int} (h : Rk w' b d cap l') (g : Chg (· = d) w w') (e : l' = l) : RSet b d cap w l (.returned (.tuple #[])) w' := ⟨rfl, e ▸ h, g⟩
theorem rlose_any (w : World) (b d cap : Nat) (l : List Int) (i : Int) (h : Rk w b d cap l) (hl : l.length ≤ 16) :
   Calls Try.prog 19 #[.pointer (some ⟨b, 0, none⟩), .int .i64 i] w (RSet b d cap w (losef l i)) := by
  have H := Lib.hid h
  by_cases h0 : 0 ≤ i ∧ i < l.length
  · obtain ⟨h0, h1⟩ := h0
    obtain ⟨n, rfl⟩ := Int.eq_ofNat_of_zero_le h0
    have hn : n < l.length := by omega
    have c := h.c
    have f := h.f n
    have cz := h.at (List.getElem?_eq_getElem hn)
    clear h
    by_cases hp : 0 < n
    · have e : l.set n (-1) = losef l (n : Int) := by unfold losef; rw [if_pos (by omega)]; rfl
      have E := Lib.hid e
      clear e
      go_enter Try.func19, Try.ntmps19
      go_wp2_with fail
      refine (rhas_any _ _ _ _ _ _ H.out hl true (by simp; omega)).mono ?_
      rintro r w' ⟨rfl, rfl⟩
      go_wp2_with fail
      go_end0
      exact rset (H.out.set _ _) (chg1 _ _ _ _) E.out
    · have e : l = losef l (n : Int) := by unfold losef; rw [if_neg (by omega)]
      have E := Lib.hid e
      clear e
      go_enter Try.func19, Try.ntmps19
      go_wp2_with fail
      refine (rhas_any _ _ _ _ _ _ H.out hl true (by simp; omega)).mono ?_
      rintro r w' ⟨rfl, rfl⟩
      go_wp2_with fail
      go_end0
      exact rset H.out (Chg.refl _ _) E.out
  · have e : l = losef l i := by
      unfold losef
      by_cases hp : 0 < i
      · rw [if_pos hp, List.set_eq_of_length_le (by omega)]
      · rw [if_neg hp]
    have E := Lib.hid e
    clear e h
    go_enter Try.func19, Try.ntmps19
    go_wp2_with fail
    refine (rhas_any _ _ _ _ _ _ H.out hl false (by simpa using h0)).mono ?_
    rintro r w' ⟨rfl, rfl⟩
    go_wp2_with fail
    go_end0
    exact rset H.out (Chg.refl _ _) E.out

theorem rheard_no (w : World) (b d cap : Nat) (l : List Int) (i j e : Int) (h : Rk w b d cap l) (hl : l.length ≤ 16) (hno : ¬ ((0 ≤ i ∧ i < l.length) ∧ (0 ≤ j ∧ j < l.length) ∧ i ≠ 0 ∧ i ≠ j)) :
   Calls Try.prog 21 #[.pointer (some ⟨b, 0, none⟩), .int .i64 i, .int .i64 j, .int .i64 e] w (RSet b d cap w (heardf l i j e)) := by
  have eq : l = heardf l i j e := by unfold heardf; rw [if_neg hno]
  have E := Lib.hid eq
  have H := Lib.hid h
  clear eq h
  by_cases hi : 0 ≤ i ∧ i < l.length
  · by_cases hj : 0 ≤ j ∧ j < l.length
    · by_cases h0 : i = 0
      · subst h0
        clear hno
        go_enter Try.func21, Try.ntmps21
        go_wp2_with fail
        refine (rhas_any _ _ _ _ _ _ H.out hl true (by simpa using hi)).mono ?_
        rintro r w' ⟨rfl, rfl⟩
        go_wp2_with fail
        refine (rhas_any _ _ _ _ _ _ H.out hl true (by simpa using hj)).mono ?_
        rintro r w' ⟨rfl, rfl⟩
        go_wp2_with fail
        go_end0
        exact rset H.out (Chg.refl _ _) E.out
      · have hij : i = j := by
          rcases Classical.em (i = j) with h | h
          · exact h
          · exact absurd ⟨hi, hj, h0, h⟩ hno
        subst hij
        have b0 : (i == 0) = false := by rw [beq_eq_false_iff_ne]; exact h0
        clear hno h0
        go_enter Try.func21, Try.ntmps21
        go_wp2_with fail
        refine (rhas_any _ _ _ _ _ _ H.out hl true (by simpa using hi)).mono ?_
        rintro r w' ⟨rfl, rfl⟩
        go_wp2_with fail
        refine (rhas_any _ _ _ _ _ _ H.out hl true (by simpa using hi)).mono ?_
        rintro r w' ⟨rfl, rfl⟩
        go_wp2_with fail
        go_end0
        exact rset H.out (Chg.refl _ _) E.out
    · clear hno
      go_enter Try.func21, Try.ntmps21
      go_wp2_with fail
      refine (rhas_any _ _ _ _ _ _ H.out hl true (by simpa using hi)).mono ?_
      rintro r w' ⟨rfl, rfl⟩
      go_wp2_with fail
      refine (rhas_any _ _ _ _ _ _ H.out hl false (by simpa using hj)).mono ?_
      rintro r w' ⟨rfl, rfl⟩
      go_wp2_with fail
      go_end0
      exact rset H.out (Chg.refl _ _) E.out
  · clear hno
    go_enter Try.func21, Try.ntmps21
    go_wp2_with fail
    refine (rhas_any _ _ _ _ _ _ H.out hl false (by simpa using hi)).mono ?_
    rintro r w' ⟨rfl, rfl⟩
    go_wp2_with fail
    go_end0
    exact rset H.out (Chg.refl _ _) E.out

theorem setm_any (w : World) (b d cap : Nat) (l : List Int) (n : Nat) (z e : Int) (h : Rk w b d cap l) (hn : n < l.length) (hl : l.length ≤ 16) (hz : z ≤ 1000000) :
   Calls Try.prog 28 #[.pointer (some ⟨b, 0, none⟩), .int .i64 n, .int .i64 z, .int .i64 e] w (RSet b d cap w (l.set n (if 0 ≤ z then z + lim e else -1))) := by
  have c := h.c
  have cn := h.at (List.getElem?_eq_getElem hn)
  have f := h.f n
  have H := Lib.hid h
  clear h
  by_cases hz0 : 0 ≤ z
  · obtain ⟨l0, l1⟩ := lim_bd e
    have e1 : IntKind.i64.wrap (z + lim e) = z + lim e := IntWalk.i64_in _ (by omega)
    rw [if_pos hz0]
    go_enter Try.func28, Try.ntmps28
    go_wp2_with fail
    go_still_tail 10, (by kernel_rfl)
    still_call (clamp_any _ _ _ _)
    rw [show max 0 (min e 1000) = lim e from rfl]
    repeat still_step
    refine wpStill_nil ?_
    change wpList _ _ _ _ _ w.drew
    clear e1 c cn f
    have gd := Chg.drew (fun _ => False) w
    have K2 := H.out.keep gd (fun f => f) (fun f => f)
    have G2 := Chg.drew (· = d) w
    have HK2 := Lib.hid K2
    have f2 := K2.f n
    have c2 := K2.at (List.getElem?_eq_getElem hn)
    clear K2 H gd
    generalize w.drew = w2 at *
    go_wp2
    go_end0
    exact rset (HK2.out.set n _) (G2.trans (chg1 _ _ _ _)) rfl
  · have hz1 : z < 0 := by omega
    rw [if_neg hz0]
    clear hz0
    go_enter Try.func28, Try.ntmps28
    go_wp2_with fail
    go_end0
    exact rset (H.out.set n _) (chg1 _ _ _ _) rfl
set_option maxRecDepth 100000 in
theorem rheard_yes (w : World) (b d cap : Nat) (l : List Int) (n m : Nat) (e : Int) (h : Rk w b d cap l) (hl : l.length ≤ 16) (hb : ∀ i, l.getD i 0 ≤ 1000000) (hn : n < l.length) (hm : m < l.length) (n0 : 0 < n) (nm : n ≠ m) :
   Calls Try.prog 21 #[.pointer (some ⟨b, 0, none⟩), .int .i64 n, .int .i64 m, .int .i64 e] w (RSet b d cap w (heardf l n m e)) := by
  obtain ⟨z, hz⟩ : ∃ z, l[m]? = some z := ⟨_, List.getElem?_eq_getElem hm⟩
  have hzd : l.getD m 0 = z := by rw [List.getD, hz]; rfl
  have hzb : z ≤ 1000000 := hzd ▸ hb m
  have eq : heardf l n m e = l.set n (if 0 ≤ z then z + lim e else -1) := by
    unfold heardf
    rw [if_pos ⟨⟨by omega, by omega⟩, ⟨by omega, by omega⟩, by omega, by omega⟩]
    simp only [Int.toNat_natCast, hzd]
  rw [eq]
  have HC := Lib.hid (fun w' (hw : Rk w' b d cap l) => setm_any w' b d cap l n z e hw hn hl hzb)
  generalize l.set n (if 0 ≤ z then z + lim e else -1) = L' at *
  have H := Lib.hid h
  have b0 : ((n : Int) == 0) = false := by rw [beq_eq_false_iff_ne]; omega
  have b1 : ((n : Int) == (m : Int)) = false := by rw [beq_eq_false_iff_ne]; omega
  have c := h.c
  have cm := h.at hz
  clear eq h hzd hz hb
  go_enter Try.func21, Try.ntmps21
  go_wp2_with fail
  refine (rhas_any _ _ _ _ _ _ H.out hl true (by simp; omega)).mono ?_
  rintro r w' ⟨rfl, rfl⟩
  go_wp2_with fail
  refine (rhas_any _ _ _ _ _ _ H.out hl true (by simp; omega)).mono ?_
  rintro r w' ⟨rfl, rfl⟩
  go_wp2_with fail
  refine (HC.out _ H.out).mono ?_
  rintro r w2 ⟨rfl, k2, g2⟩
  go_wp2_with fail
  go_end0
  exact ⟨rfl, k2, g2⟩
theorem rheard_any (w : World) (b d cap : Nat) (l : List Int) (i j e : Int) (h : Rk w b d cap l) (hl : l.length ≤ 16) (hb : ∀ i, l.getD i 0 ≤ 1000000) :
   Calls Try.prog 21 #[.pointer (some ⟨b, 0, none⟩), .int .i64 i, .int .i64 j, .int .i64 e] w (RSet b d cap w (heardf l i j e)) := by
  by_cases hy : (0 ≤ i ∧ i < l.length) ∧ (0 ≤ j ∧ j < l.length) ∧ i ≠ 0 ∧ i ≠ j
  · obtain ⟨⟨i0, i1⟩, ⟨j0, j1⟩, h0, hij⟩ := hy
    obtain ⟨n, rfl⟩ := Int.eq_ofNat_of_zero_le i0
    obtain ⟨m, rfl⟩ := Int.eq_ofNat_of_zero_le j0
    exact rheard_yes w b d cap l n m e h hl hb (by omega) (by omega) (by omega) (by omega)
  · exact rheard_no w b d cap l i j e h hl hy
def RSl (b d cap : Nat) (w : World) (l : List Int) (L : List Int) (k : Nat) (w' : World) : Prop :=
  Rk w' b d cap L ∧ Chg (· = d) w w' ∧ L.length = l.length ∧ ∀ i, L[i]? = if i < k then (l[i]?).map (up i) else l[i]?
theorem rsl_end {b d cap : Nat} {w w' : World} {l L : List Int} (h : RSl b d cap w l L l.length w') : RSet b d cap w (slotf l) (.returned (.tuple #[])) w' := by
  obtain ⟨h1, h2, h3, h4⟩ := h
  refine rset h1 h2 ?_
  apply List.ext_getElem?
  intro i
  rw [h4 i, slotf_at]
  by_cases hi : i < l.length
  · rw [if_pos hi]
  · rw [if_neg hi, List.getElem?_eq_none (by omega)]; rfl
theorem rsl_keep {b d cap : Nat} {w w' : World} {l L : List Int} {k : Nat} {z : Int} (h : RSl b d cap w l L k w') (hz : l[k]? = some z) (hu : up k z = z) : RSl b d cap w l L (k + 1) w' := by
  obtain ⟨h1, h2, h3, h4⟩ := h
  refine ⟨h1, h2, h3, fun i => ?_⟩
  rw [h4 i]
  by_cases hi : i < k
  · rw [if_pos hi, if_pos (by omega)]
  · by_cases hk : i = k
    · subst hk; rw [if_neg hi, if_pos (by omega), hz, Option.map_some, hu]
    · rw [if_neg hi, if_neg (by omega)]
theorem rsl_set {b d cap : Nat} {w w' : World} {l L : List Int} {k : Nat} {z u : Int} (h : RSl b d cap w l L k w') (hz : l[k]? = some z) (hu : up k z = u) : RSl b d cap w l (L.set k u) (k + 1) (w'.setCell ⟨d, k, none⟩ (.int .i64 u)) := by
  obtain ⟨h1, h2, h3, h4⟩ := h
  have hk : k < l.length := (List.getElem?_eq_some_iff.1 hz).1
  refine ⟨h1.set k u, h2.trans (chg1 _ _ _ _), by simpa using h3, fun i => ?_⟩
  by_cases hk' : i = k
  · subst hk'; rw [List.getElem?_set_self (by omega), if_pos (by omega), hz, Option.map_some, hu]
  · rw [List.getElem?_set_ne (by omega), h4 i]
    by_cases hi : i < k
    · rw [if_pos hi, if_pos (by omega)]
    · rw [if_neg hi, if_neg (by omega)]

set_option maxRecDepth 100000 in
theorem rslot_any (w : World) (b d cap : Nat) (l : List Int) (h : Rk w b d cap l) (hl : l.length ≤ 16) (hb : ∀ i, l.getD i 0 ≤ 1000000000000) :
   Calls Try.prog 17 #[.pointer (some ⟨b, 0, none⟩)] w (RSet b d cap w (slotf l)) := by
  have c := h.c
  have P0 : RSl b d cap w l l 0 w := ⟨h, Chg.refl _ _, rfl, fun i => by simp⟩
  clear h
  go_enter Try.func17, Try.ntmps17
  go_wp2_with fail
  clear c
  go_loopw [8] (fun i wr => ∃ (k : Nat) (L : List Int), k ≤ l.length ∧ i = .int .i64 k ∧ RSl b d cap w l L k wr) (fun i _ => l.length - (intOf i).toNat)
  case atStart => exact ⟨0, l, by omega, rfl, P0⟩
  case round =>
    obtain ⟨k, L, hk, rfl, hp⟩ := hrel
    clear P0
    have HP := Lib.hid hp
    by_cases hlt : k < l.length
    · obtain ⟨z, hz⟩ : ∃ z, l[k]? = some z := ⟨_, List.getElem?_eq_getElem hlt⟩
      have hzb : z ≤ 1000000000000 := by have := hb k; rw [List.getD, hz] at this; exact this
      have hzL : L[k]? = some z := by rw [hp.2.2.2 k, if_neg (by omega), hz]
      have c := hp.1.c
      rw [hp.2.2.1] at c
      have cz := hp.1.at hzL
      have HZ := Lib.hid hz
      have HZL := Lib.hid hzL
      clear hp hz hzL hb
      by_cases hup : 0 < k ∧ 0 ≤ z
      · obtain ⟨hk0, hz0⟩ := hup
        have e1 : IntKind.i64.wrap (z + 1) = z + 1 := IntWalk.i64_in _ (by omega)
        by_cases hmx : 1000000000000 < z + 1
        all_goals
          go_wp2_with fail
          go_still_tail 14, (by kernel_rfl)
          change wpList _ _ _ _ _ wr.drew
          clear e1 c cz
          have gd := Chg.drew (fun _ => False) wr
          have P5 : RSl b d cap w l L k wr.drew := ⟨HP.out.1.keep gd (fun f => f) (fun f => f), HP.out.2.1.trans gd.none, HP.out.2.2.1, HP.out.2.2.2⟩
          have f := P5.1.f k
          have cz := P5.1.at HZL.out
          have HP5 := Lib.hid P5
          clear P5 HP gd
          generalize wr.drew = w5 at *
          go_wp2_with fail
          go_roundw
          case rel => exact ⟨k + 1, _, by omega, by go_num, rsl_set HP5.out HZ.out (by unfold up; rw [if_pos ⟨hk0, hz0⟩]; omega)⟩
          case measure => simp [intOf]; omega
      · have hu : up k z = z := by unfold up; rw [if_neg hup]
        have HU := Lib.hid hu
        clear hu
        by_cases hk0 : 0 < k
        · have hz0 : z < 0 := by omega
          clear hup
          go_wp2_with fail
          go_roundw
          case rel => exact ⟨k + 1, _, by omega, by go_num, rsl_keep HP.out HZ.out HU.out⟩
          case measure => simp [intOf]; omega
        · clear hup
          go_wp2_with fail
          go_roundw
          case rel => exact ⟨k + 1, _, by omega, by go_num, rsl_keep HP.out HZ.out HU.out⟩
          case measure => simp [intOf]; omega
    · obtain rfl : k = l.length := by omega
      clear hp hb
      go_wp2_with fail
      go_end0
      exact rsl_end HP.out
end Go.Proofs.Ytcdfoofkcgoapaa
