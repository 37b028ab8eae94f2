/- What the writing methods of a proof of offsets do. No condition but that its numbers are within bounds. -/
import Derived.Test.YtcdfoofkcgoapaaK
namespace Go.Proofs.Ytcdfoofkcgoapaa
set_option linter.unusedVariables false
open Go.ChangeShapes Go.WideShapes Go.ChangeAt Go.RowKit

def PSet (b d : Nat) (w : World) (l : List Int) (e : Ending) (w' : World) : Prop := e = .returned (.tuple #[]) ∧ Pk w' b d l ∧ Chg (· = d) w w'
theorem pset {w w' : World} {b d : Nat} {l l' : List Int} (h : Pk w' b d l') (g : Chg (· = d) w w') (e : l' = l) : PSet b d w l (.returned (.tuple #[])) w' := ⟨rfl, e ▸ h, g⟩

def losef (l : List Int) (i : Int) : List Int := if 0 < i then l.set i.toNat (-1) else l
theorem lose_any (w : World) (b d : Nat) (l : List Int) (i : Int) (h : Pk w b d l) (hl : l.length ≤ 16) :
   Calls Try.prog 18 #[.pointer (some ⟨b, 0, none⟩), .int .i64 i] w (PSet b d w (losef l i)) := by
  have H := Lib.hid h
  by_cases h0 : 0 ≤ i ∧ i < l.length
  · obtain ⟨h0, h1⟩ := h0
    obtain ⟨n, rfl⟩ := Int.eq_ofNat_of_zero_le h0
    have hn : n < l.length := by omega
    have c := h.c
    have f := h.f n
    have cz := h.at (List.getElem?_eq_getElem hn)
    clear h
    by_cases hp : 0 < n
    · have e : l.set n (-1) = losef l (n : Int) := by unfold losef; rw [if_pos (by omega)]; rfl
      have E := Lib.hid e
      clear e
      go_enter Try.func18, Try.ntmps18
      go_wp2_with fail
      refine (has_any _ _ _ _ _ H.out hl true (by simp; omega)).mono ?_
      rintro r w' ⟨rfl, rfl⟩
      go_wp2_with fail
      go_end0
      exact pset (H.out.set _ _) (chg1 _ _ _ _) E.out
    · have e : l = losef l (n : Int) := by unfold losef; rw [if_neg (by omega)]
      have E := Lib.hid e
      clear e
      go_enter Try.func18, Try.ntmps18
      go_wp2_with fail
      refine (has_any _ _ _ _ _ H.out hl true (by simp; omega)).mono ?_
      rintro r w' ⟨rfl, rfl⟩
      go_wp2_with fail
      go_end0
      exact pset H.out (Chg.refl _ _) E.out
  · have e : l = losef l i := by
      unfold losef
      by_cases hp : 0 < i
      · rw [if_pos hp, List.set_eq_of_length_le (by omega)]
      · rw [if_neg hp]
    have E := Lib.hid e
    clear e h
    go_enter Try.func18, Try.ntmps18
    go_wp2_with fail
    refine (has_any _ _ _ _ _ H.out hl false (by simpa using h0)).mono ?_
    rintro r w' ⟨rfl, rfl⟩
    go_wp2_with fail
    go_end0
    exact pset H.out (Chg.refl _ _) E.out

def heardf (l : List Int) (i b e : Int) : List Int :=
  if (0 ≤ i ∧ i < l.length) ∧ (0 ≤ b ∧ b < l.length) ∧ i ≠ 0 ∧ i ≠ b then l.set i.toNat (if 0 ≤ l.getD b.toNat 0 then l.getD b.toNat 0 + lim e else -1) else l

theorem heard_no (w : World) (b d : Nat) (l : List Int) (i j e : Int) (h : Pk w b d l) (hl : l.length ≤ 16) (hno : ¬ ((0 ≤ i ∧ i < l.length) ∧ (0 ≤ j ∧ j < l.length) ∧ i ≠ 0 ∧ i ≠ j)) :
   Calls Try.prog 20 #[.pointer (some ⟨b, 0, none⟩), .int .i64 i, .int .i64 j, .int .i64 e] w (PSet b d w (heardf l i j e)) := by
  have eq : l = heardf l i j e := by unfold heardf; rw [if_neg hno]
  have E := Lib.hid eq
  have H := Lib.hid h
  clear eq h
  by_cases hi : 0 ≤ i ∧ i < l.length
  · by_cases hj : 0 ≤ j ∧ j < l.length
    · by_cases h0 : i = 0
      · subst h0
        clear hno
        go_enter Try.func20, Try.ntmps20
        go_wp2_with fail
        refine (has_any _ _ _ _ _ H.out hl true (by simpa using hi)).mono ?_
        rintro r w' ⟨rfl, rfl⟩
        go_wp2_with fail
        refine (has_any _ _ _ _ _ H.out hl true (by simpa using hj)).mono ?_
        rintro r w' ⟨rfl, rfl⟩
        go_wp2_with fail
        go_end0
        exact pset H.out (Chg.refl _ _) E.out
      · have hij : i = j := by
          rcases Classical.em (i = j) with h | h
          · exact h
          · exact absurd ⟨hi, hj, h0, h⟩ hno
        subst hij
        have b0 : (i == 0) = false := by rw [beq_eq_false_iff_ne]; exact h0
        clear hno h0
        go_enter Try.func20, Try.ntmps20
        go_wp2_with fail
        refine (has_any _ _ _ _ _ H.out hl true (by simpa using hi)).mono ?_
        rintro r w' ⟨rfl, rfl⟩
        go_wp2_with fail
        refine (has_any _ _ _ _ _ H.out hl true (by simpa using hi)).mono ?_
        rintro r w' ⟨rfl, rfl⟩
        go_wp2_with fail
        go_end0
        exact pset H.out (Chg.refl _ _) E.out
    · clear hno
      go_enter Try.func20, Try.ntmps20
      go_wp2_with fail
      refine (has_any _ _ _ _ _ H.out hl true (by simpa using hi)).mono ?_
      rintro r w' ⟨rfl, rfl⟩
      go_wp2_with fail
      refine (has_any _ _ _ _ _ H.out hl false (by simpa using hj)).mono ?_
      rintro r w' ⟨rfl, rfl⟩
      go_wp2_with fail
      go_end0
      exact pset H.out (Chg.refl _ _) E.out
  · clear hno
    go_enter Try.func20, Try.ntmps20
    go_wp2_with fail
    refine (has_any _ _ _ _ _ H.out hl false (by simpa using hi)).mono ?_
    rintro r w' ⟨rfl, rfl⟩
    go_wp2_with fail
    go_end0
    exact pset H.out (Chg.refl _ _) E.out

theorem lim3 (e : Int) : (e ≤ 0 ∧ lim e = 0) ∨ (1000 < e ∧ lim e = 1000) ∨ (0 < e ∧ e ≤ 1000 ∧ lim e = e) := by unfold lim; omega

set_option maxRecDepth 100000 in
set_option maxHeartbeats 2000000 in
theorem heard_yes (w : World) (b d : Nat) (l : List Int) (n m : Nat) (e : Int) (h : Pk w b d l) (hl : l.length ≤ 16) (hb : ∀ i, l.getD i 0 ≤ 1000000000000) (hn : n < l.length) (hm : m < l.length) (n0 : 0 < n) (nm : n ≠ m) :
   Calls Try.prog 20 #[.pointer (some ⟨b, 0, none⟩), .int .i64 n, .int .i64 m, .int .i64 e] w (PSet b d w (heardf l n m e)) := by
  obtain ⟨z, hz⟩ : ∃ z, l[m]? = some z := ⟨_, List.getElem?_eq_getElem hm⟩
  have hzd : l.getD m 0 = z := by rw [List.getD, hz]; rfl
  have hzb : z ≤ 1000000000000 := hzd ▸ hb m
  have eq : heardf l n m e = (l.set n (-1)).set n (if 0 ≤ z then z + lim e else -1) := by
    unfold heardf
    rw [if_pos ⟨⟨by omega, by omega⟩, ⟨by omega, by omega⟩, by omega, by omega⟩, List.set_set]
    simp only [Int.toNat_natCast, hzd]
  have E := Lib.hid eq
  have H := Lib.hid h
  have hm1 : (l.set n (-1))[m]? = some z := by rw [List.getElem?_set_ne nm, hz]
  have HM1 := Lib.hid hm1
  have HB := Lib.hid hb
  have b0 : ((n : Int) == 0) = false := by rw [beq_eq_false_iff_ne]; omega
  have b1 : ((n : Int) == (m : Int)) = false := by rw [beq_eq_false_iff_ne]; omega
  have c := h.c
  have f := h.f n
  have cz := h.at (List.getElem?_eq_getElem hn)
  have cm := h.at hz
  have hnm : ¬ (m = n) := fun h => nm h.symm
  clear eq h hzd hz hb hm1
  by_cases hz0 : 0 ≤ z
  · go_enter Try.func20, Try.ntmps20
    go_wp2_with fail
    refine (has_any _ _ _ _ _ H.out hl true (by simp; omega)).mono ?_
    rintro r w' ⟨rfl, rfl⟩
    go_wp2_with fail
    refine (has_any _ _ _ _ _ H.out hl true (by simp; omega)).mono ?_
    rintro r w' ⟨rfl, rfl⟩
    go_wp2_with fail
    have K1 := H.out.set n (-1)
    have G1 := chg1 w' d n (.int .i64 (-1))
    clear c f cz cm
    generalize w'.setCell ⟨d, n, none⟩ (.int .i64 (-1)) = w1 at *
    have c := K1.c
    have cm := K1.at HM1.out
    have hl1 : (l.set n (-1)).length = l.length := by simp
    rw [hl1] at c
    have HK1 := Lib.hid K1
    clear K1 hl1
    obtain ⟨l0, l1⟩ := lim_bd e
    rcases lim3 e with ⟨h1, h2⟩ | ⟨h1, h2⟩ | ⟨h1, h3, h2⟩
    all_goals
      have HL := Lib.hid h2
      clear h2
      have e1 : IntKind.i64.wrap (z + 1000) = z + 1000 := IntWalk.i64_in _ (by omega)
      have e2 : IntKind.i64.wrap (z + 0) = z + 0 := IntWalk.i64_in _ (by omega)
      go_still_tail 16, (by kernel_rfl)
      change wpList _ _ _ _ _ w1.drew
      clear e1 e2 c cm
      have K2 : Pk w1.drew b d (l.set n (-1)) := HK1.out.keep (Chg.drew (fun _ => False) w1) (fun f => f) (fun f => f)
      have G2 := G1.trans (Chg.drew _ w1)
      have HK2 := Lib.hid K2
      have f2 := K2.f n
      have c2 := K2.at (i := n) (z := -1) (by rw [List.getElem?_set_self hn])
      clear K2 HK1 G1
      generalize w1.drew = w2 at *
      go_wp2
      go_end0
      refine pset (HK2.out.set n _) (G2.trans (chg1 _ _ _ _)) ?_
      have q := E.out
      rw [if_pos hz0, HL.out] at q
      rw [q]
      try simp
  · have hz1 : z < 0 := by omega
    have eq : l.set n (-1) = heardf l n m e := by rw [E.out, if_neg hz0, List.set_set]
    have EQ := Lib.hid eq
    clear eq hz0
    go_enter Try.func20, Try.ntmps20
    go_wp2_with fail
    refine (has_any _ _ _ _ _ H.out hl true (by simp; omega)).mono ?_
    rintro r w' ⟨rfl, rfl⟩
    go_wp2_with fail
    refine (has_any _ _ _ _ _ H.out hl true (by simp; omega)).mono ?_
    rintro r w' ⟨rfl, rfl⟩
    go_wp2_with fail
    go_end0
    exact pset (H.out.set _ _) (chg1 _ _ _ _) EQ.out

theorem heard_any (w : World) (b d : Nat) (l : List Int) (i j e : Int) (h : Pk w b d l) (hl : l.length ≤ 16) (hb : ∀ i, l.getD i 0 ≤ 1000000000000) :
   Calls Try.prog 20 #[.pointer (some ⟨b, 0, none⟩), .int .i64 i, .int .i64 j, .int .i64 e] w (PSet b d w (heardf l i j e)) := by
  by_cases hy : (0 ≤ i ∧ i < l.length) ∧ (0 ≤ j ∧ j < l.length) ∧ i ≠ 0 ∧ i ≠ j
  · obtain ⟨⟨i0, i1⟩, ⟨j0, j1⟩, h0, hij⟩ := hy
    obtain ⟨n, rfl⟩ := Int.eq_ofNat_of_zero_le i0
    obtain ⟨m, rfl⟩ := Int.eq_ofNat_of_zero_le j0
    exact heard_yes w b d l n m e h hl hb (by omega) (by omega) (by omega) (by omega)
  · exact heard_no w b d l i j e h hl hy

def up (i : Nat) (z : Int) : Int := if 0 < i ∧ 0 ≤ z then min (z + 1) 1000000000000 else z
def slotf (l : List Int) : List Int := l.mapIdx up
theorem slotf_len (l : List Int) : (slotf l).length = l.length := by simp [slotf]
theorem slotf_at (l : List Int) (i : Nat) : (slotf l)[i]? = (l[i]?).map (up i) := by simp [slotf]

def PSl (b d : Nat) (w : World) (l : List Int) (L : List Int) (k : Nat) (w' : World) : Prop :=
  Pk w' b d L ∧ Chg (· = d) w w' ∧ L.length = l.length ∧ ∀ i, L[i]? = if i < k then (l[i]?).map (up i) else l[i]?
theorem psl_end {b d : Nat} {w w' : World} {l L : List Int} (h : PSl b d w l L l.length w') : PSet b d w (slotf l) (.returned (.tuple #[])) w' := by
  obtain ⟨h1, h2, h3, h4⟩ := h
  refine pset h1 h2 ?_
  apply List.ext_getElem?
  intro i
  rw [h4 i, slotf_at]
  by_cases hi : i < l.length
  · rw [if_pos hi]
  · rw [if_neg hi, List.getElem?_eq_none (by omega)]; rfl
theorem psl_keep {b d : Nat} {w w' : World} {l L : List Int} {k : Nat} {z : Int} (h : PSl b d w l L k w') (hz : l[k]? = some z) (hu : up k z = z) : PSl b d w l L (k + 1) w' := by
  obtain ⟨h1, h2, h3, h4⟩ := h
  refine ⟨h1, h2, h3, fun i => ?_⟩
  rw [h4 i]
  by_cases hi : i < k
  · rw [if_pos hi, if_pos (by omega)]
  · by_cases hk : i = k
    · subst hk; rw [if_neg hi, if_pos (by omega), hz, Option.map_some, hu]
    · rw [if_neg hi, if_neg (by omega)]
theorem psl_set {b d : Nat} {w w' : World} {l L : List Int} {k : Nat} {z u : Int} (h : PSl b d w l L k w') (hz : l[k]? = some z) (hu : up k z = u) : PSl b d w l (L.set k u) (k + 1) (w'.setCell ⟨d, k, none⟩ (.int .i64 u)) := by
  obtain ⟨h1, h2, h3, h4⟩ := h
  have hk : k < l.length := (List.getElem?_eq_some_iff.1 hz).1
  refine ⟨h1.set k u, h2.trans (chg1 _ _ _ _), by simpa using h3, fun i => ?_⟩
  by_cases hk' : i = k
  · subst hk'; rw [List.getElem?_set_self (by omega), if_pos (by omega), hz, Option.map_some, hu]
  · rw [List.getElem?_set_ne (by omega), h4 i]
    by_cases hi : i < k
    · rw [if_pos hi, if_pos (by omega)]
    · rw [if_neg hi, if_neg (by omega)]

set_option maxRecDepth 100000 in
theorem slot_any (w : World) (b d : Nat) (l : List Int) (h : Pk w b d l) (hl : l.length ≤ 16) (hb : ∀ i, l.getD i 0 ≤ 1000000000000) :
   Calls Try.prog 16 #[.pointer (some ⟨b, 0, none⟩)] w (PSet b d w (slotf l)) := by
  have c := h.c
  have P0 : PSl b d w l l 0 w := ⟨h, Chg.refl _ _, rfl, fun i => by simp⟩
  clear h
  go_enter Try.func16, Try.ntmps16
  go_wp2_with fail
  clear c
  go_loopw [11] (fun i wr => ∃ (k : Nat) (L : List Int), k ≤ l.length ∧ i = .int .i64 k ∧ PSl b d w l L k wr) (fun i _ => l.length - (intOf i).toNat)
  case atStart => exact ⟨0, l, by omega, rfl, P0⟩
  case round =>
    obtain ⟨k, L, hk, rfl, hp⟩ := hrel
    clear P0
    have HP := Lib.hid hp
    by_cases hlt : k < l.length
    · obtain ⟨z, hz⟩ : ∃ z, l[k]? = some z := ⟨_, List.getElem?_eq_getElem hlt⟩
      have hzb : z ≤ 1000000000000 := by have := hb k; rw [List.getD, hz] at this; exact this
      have hzL : L[k]? = some z := by rw [hp.2.2.2 k, if_neg (by omega), hz]
      have c := hp.1.c
      rw [hp.2.2.1] at c
      have cz := hp.1.at hzL
      have f := hp.1.f k
      have HZ := Lib.hid hz
      clear hp hz hzL hb
      by_cases hup : 0 < k ∧ 0 ≤ z
      · obtain ⟨hk0, hz0⟩ := hup
        by_cases hmx : 1000000000000 < z + 1
        all_goals
          go_wp2_with fail
          go_roundw
          case rel => exact ⟨k + 1, _, by omega, by go_num, psl_set HP.out HZ.out (by unfold up; rw [if_pos ⟨hk0, hz0⟩]; omega)⟩
          case measure => simp [intOf]; omega
      · have hu : up k z = z := by unfold up; rw [if_neg hup]
        have HU := Lib.hid hu
        clear hu
        by_cases hk0 : 0 < k
        · have hz0 : z < 0 := by omega
          clear hup
          go_wp2_with fail
          go_roundw
          case rel => exact ⟨k + 1, _, by omega, by go_num, psl_keep HP.out HZ.out HU.out⟩
          case measure => simp [intOf]; omega
        · clear hup
          go_wp2_with fail
          go_roundw
          case rel => exact ⟨k + 1, _, by omega, by go_num, psl_keep HP.out HZ.out HU.out⟩
          case measure => simp [intOf]; omega
    · obtain rfl : k = l.length := by omega
      clear hp hb
      go_wp2_with fail
      go_end0
      exact psl_end HP.out

theorem Try.info2 : (Try.prog.info? 2).map (fun i => (i.zero, i.size, i.bytes)) = some (some (.int .i64 0), 1, 8) := by kernel_rfl
theorem make_any (n : Nat) (hn : n ≤ 16) : ∃ arr : Array Value, arr.toList.length = n ∧ ∀ w : World, (Instr.makeSlice 40 (.int .i64 (n : Int)) (.int .i64 (n : Int))).run Try.prog w = .ok (.slice (some ⟨w.heap.size, 0, none⟩) n n) (w.alloc (.cells arr 2)) := by
  obtain ⟨i0, hi, hx⟩ := Option.map_eq_some_iff.1 Try.info2
  simp only [Prod.mk.injEq] at hx
  obtain ⟨hz0, hz1, hz2⟩ := hx
  refine ⟨madeCells (Value.int .i64 0).cells (n * i0.size), by rw [Array.length_toList, size_madeCells, hz1]; omega, fun w => ?_⟩
  have := run_make (P := Try.prog) w 40 2 i0 (.int .i64 0) Try.underlying40 hi hz0 .i64 .i64 n n (by omega) (by omega) (by rw [hz2]; omega) (by omega)
  simpa using this
def many (n : Int) : Nat := (max 1 (min n 16)).toNat
def newf (n : Int) : List Int := (0 : Int) :: List.replicate (many n - 1) (-1)
def PNew (w : World) (n : Int) (e : Ending) (w' : World) : Prop :=
  ∃ b d, e = .returned (.pointer (some ⟨b, 0, none⟩)) ∧ w.heap.size ≤ b ∧ w.heap.size ≤ d ∧ Pk w' b d (newf n) ∧ Chg (fun _ => False) w w'

/-- in the midst of 'New': the first k cells are -1. -/
structure Mid (w : World) (b d m k : Nat) (w' : World) : Prop where
  head : w'.heap[b]? = some (.cells #[.slice (some ⟨d, 0, none⟩) m m] 46 (0, 0))
  data : ∃ arr : Array Value, w'.heap[d]? = some (.cells arr 2 (0, 0)) ∧ arr.size = m ∧ ∀ i, i < k → arr[i]? = some (.int .i64 (-1))
  ne : b ≠ d
  chg : Chg (fun k => w.heap.size ≤ k) w w'
theorem set_other (arr : Array Value) (k i : Nat) (v : Value) (h : k ≠ i) : (arr.setIfInBounds k v)[i]? = arr[i]? := by
  rw [Array.getElem?_setIfInBounds]; simp [h]
theorem set_self (arr : Array Value) (k : Nat) (v : Value) (h : k < arr.size) : (arr.setIfInBounds k v)[k]? = some v := by
  rw [Array.getElem?_setIfInBounds]; simp [h]
theorem Mid.set {w w' : World} {b d m k : Nat} (h : Mid w b d m k w') (hd : w.heap.size ≤ d) (hk : k < m) : Mid w b d m (k + 1) (w'.setCell ⟨d, k, none⟩ (.int .i64 (-1))) := by
  obtain ⟨h1, ⟨arr, h2, h3, h4⟩, h5, h6⟩ := h
  refine ⟨Chg.keep (chg1 w' d k _) h1 h5, ⟨_, block_set h2 k _, by simpa using h3, fun i hi => ?_⟩, h5, h6.trans ((chg1 w' d k _).one hd)⟩
  by_cases e : i = k
  · subst e; exact set_self _ _ _ (by omega)
  · rw [set_other _ _ _ _ (by omega)]; exact h4 i (by omega)
theorem newf_len (n : Int) : (newf n).length = many n := by
  unfold newf; rw [List.length_cons, List.length_replicate]
  have : 1 ≤ many n := by unfold many; omega
  omega
theorem newf_at (n : Int) (j : Nat) (h : j + 1 < many n) : (newf n)[j + 1]? = some (-1) := by
  unfold newf
  rw [List.getElem?_cons_succ, List.getElem?_replicate, if_pos (by omega)]
theorem Mid.end {w w' : World} {b d m : Nat} {n : Int} (h : Mid w b d m m w') (hm : m = many n) (hd : w.heap.size ≤ d) (hb : w.heap.size ≤ b) : PNew w n (.returned (.pointer (some ⟨b, 0, none⟩))) (w'.setCell ⟨d, 0, none⟩ (.int .i64 0)) := by
  obtain ⟨h1, ⟨arr, h2, h3, h4⟩, h5, h6⟩ := h
  have hm1 : 1 ≤ m := by unfold many at hm; omega
  have hl : (newf n).length = m := by rw [newf_len, hm]
  refine ⟨b, d, rfl, hb, hd, ⟨?_, ?_, h5⟩, (h6.trans ((chg1 w' d 0 _).one hd)).fresh⟩
  · rw [hl]; exact Chg.keep (chg1 w' d 0 _) h1 h5
  · rw [block_set h2 0 _]
    have e : arr.setIfInBounds 0 (.int .i64 0) = ((newf n).map V).toArray := by
      apply Array.ext_getElem?
      intro i
      rw [show ((newf n).map V).toArray[i]? = ((newf n).map V)[i]? from by simp, List.getElem?_map]
      by_cases e : i = 0
      · subst e
        rw [set_self _ _ _ (by omega)]; rfl
      · rw [set_other _ _ _ _ (by omega)]
        obtain ⟨j, rfl⟩ : ∃ j, i = j + 1 := ⟨i - 1, by omega⟩
        by_cases hi : j + 1 < m
        · rw [h4 _ hi, newf_at n j (by omega)]; rfl
        · rw [Array.getElem?_eq_none (by omega), List.getElem?_eq_none (by omega)]; rfl
    rw [e]

set_option maxRecDepth 100000 in
theorem new_any (w : World) (n : Int) : Calls Try.prog 14 #[.int .i64 n] w (PNew w n) := by
  have hm1 : 1 ≤ many n ∧ many n ≤ 16 := by unfold many; omega
  obtain ⟨hm1, hm2⟩ := hm1
  obtain ⟨m, hm⟩ : ∃ m, m = many n := ⟨_, rfl⟩
  rw [← hm] at hm1 hm2
  have hme : max 1 (min n 16) = (m : Int) := by unfold many at hm; omega
  have HM := Lib.hid hm
  clear hm
  rcases (by omega : (n ≤ 1 ∧ m = 1) ∨ (16 < n ∧ m = 16) ∨ (1 < n ∧ n ≤ 16 ∧ n = m)) with ⟨h1, rfl⟩ | ⟨h1, rfl⟩ | ⟨h1, h2, rfl⟩
  · clear hme
    obtain ⟨arr, ha, hmk0⟩ := make_any 1 (by omega)
    have hmk : ∀ w : World, (Instr.makeSlice 40 (.int .i64 1) (.int .i64 1)).run Try.prog w = .ok (.slice (some ⟨w.heap.size, 0, none⟩) 1 1) (w.alloc (.cells arr 2)) := hmk0
    have HA := Lib.hid ha
    clear ha hmk0
    go_enter Try.func14, Try.ntmps14
    go_wp2_with fail
    clear hmk
    have M0 : Mid w (w.heap.size + 1) w.heap.size 1 0 ((w.alloc (.cells arr 2)).alloc (.cells #[.slice (some ⟨w.heap.size, 0, none⟩) 1 1] 46)) := by
      refine ⟨?_, ⟨arr, ?_, by have := HA.out; simpa using this, fun i hi => absurd hi (Nat.not_lt_zero _)⟩, by omega, (Chg.alloc _ _ _).trans (Chg.alloc _ _ _)⟩
      · have := block_alloc (w.alloc (.cells arr 2)) (.cells #[.slice (some ⟨w.heap.size, 0, none⟩) 1 1] 46)
        rw [World.size_alloc] at this; exact this
      · exact Chg.keep (Chg.alloc (fun _ => False) _ _) (block_alloc w (.cells arr 2)) (fun f => f)
    generalize (w.alloc (.cells arr 2)).alloc (.cells #[.slice (some ⟨w.heap.size, 0, none⟩) 1 1] 46) = w2 at *
    obtain ⟨d, hd⟩ : ∃ d, d = w.heap.size := ⟨_, rfl⟩
    obtain ⟨b, hb⟩ : ∃ b, b = w.heap.size + 1 := ⟨_, rfl⟩
    have hb' : w.heap.size ≤ b := by omega
    have hd' : w.heap.size ≤ d := by omega
    rw [← hb, ← hd] at M0
    rw [← hb, ← hd]
    clear hb hd
    go_loopw [16] (fun i wr => ∃ (k : Nat), k ≤ 1 ∧ i = .int .i64 k ∧ Mid w b d 1 k wr) (fun i _ => 1 - (intOf i).toNat)
    case atStart => exact ⟨0, by omega, rfl, M0⟩
    case round =>
      obtain ⟨k, hk, rfl, hp⟩ := hrel
      clear M0
      have HP := Lib.hid hp
      have c : wr.cell? ⟨b, 0, none⟩ = some (.slice (some ⟨d, 0, none⟩) 1 1) := by rw [cell_of_block hp.head]; rfl
      obtain ⟨ar, hd2, hs2, _⟩ := hp.data
      have fz : ∀ o, wr.frozen? ⟨d, o, none⟩ = false := fun o => frozen_of_block hd2 o
      by_cases hlt : k < 1
      · obtain ⟨v, hv⟩ : ∃ v, wr.cell? ⟨d, k, none⟩ = some v := ⟨_, by rw [cell_of_block hd2]; exact Array.getElem?_eq_getElem (by omega)⟩
        have f := fz k
        clear hp fz hd2 hs2
        go_wp2_with fail
        go_roundw
        case rel => exact ⟨k + 1, by omega, by go_num, HP.out.set hd' hlt⟩
        case measure => simp [intOf]; omega
      · obtain rfl : k = 1 := by omega
        obtain ⟨v, hv⟩ : ∃ v, wr.cell? ⟨d, 0, none⟩ = some v := ⟨_, by rw [cell_of_block hd2]; exact Array.getElem?_eq_getElem (by omega)⟩
        have f := fz 0
        clear hp fz hd2 hs2
        go_wp2_with fail
        go_ret
        exact HP.out.end HM.out hd' hb'
  · clear hme
    obtain ⟨arr, ha, hmk0⟩ := make_any 16 (by omega)
    have hmk : ∀ w : World, (Instr.makeSlice 40 (.int .i64 16) (.int .i64 16)).run Try.prog w = .ok (.slice (some ⟨w.heap.size, 0, none⟩) 16 16) (w.alloc (.cells arr 2)) := hmk0
    have HA := Lib.hid ha
    clear ha hmk0
    go_enter Try.func14, Try.ntmps14
    go_wp2_with fail
    clear hmk
    have M0 : Mid w (w.heap.size + 1) w.heap.size 16 0 ((w.alloc (.cells arr 2)).alloc (.cells #[.slice (some ⟨w.heap.size, 0, none⟩) 16 16] 46)) := by
      refine ⟨?_, ⟨arr, ?_, by have := HA.out; simpa using this, fun i hi => absurd hi (Nat.not_lt_zero _)⟩, by omega, (Chg.alloc _ _ _).trans (Chg.alloc _ _ _)⟩
      · have := block_alloc (w.alloc (.cells arr 2)) (.cells #[.slice (some ⟨w.heap.size, 0, none⟩) 16 16] 46)
        rw [World.size_alloc] at this; exact this
      · exact Chg.keep (Chg.alloc (fun _ => False) _ _) (block_alloc w (.cells arr 2)) (fun f => f)
    generalize (w.alloc (.cells arr 2)).alloc (.cells #[.slice (some ⟨w.heap.size, 0, none⟩) 16 16] 46) = w2 at *
    obtain ⟨d, hd⟩ : ∃ d, d = w.heap.size := ⟨_, rfl⟩
    obtain ⟨b, hb⟩ : ∃ b, b = w.heap.size + 1 := ⟨_, rfl⟩
    have hb' : w.heap.size ≤ b := by omega
    have hd' : w.heap.size ≤ d := by omega
    rw [← hb, ← hd] at M0
    rw [← hb, ← hd]
    clear hb hd
    go_loopw [16] (fun i wr => ∃ (k : Nat), k ≤ 16 ∧ i = .int .i64 k ∧ Mid w b d 16 k wr) (fun i _ => 16 - (intOf i).toNat)
    case atStart => exact ⟨0, by omega, rfl, M0⟩
    case round =>
      obtain ⟨k, hk, rfl, hp⟩ := hrel
      clear M0
      have HP := Lib.hid hp
      have c : wr.cell? ⟨b, 0, none⟩ = some (.slice (some ⟨d, 0, none⟩) 16 16) := by rw [cell_of_block hp.head]; rfl
      obtain ⟨ar, hd2, hs2, _⟩ := hp.data
      have fz : ∀ o, wr.frozen? ⟨d, o, none⟩ = false := fun o => frozen_of_block hd2 o
      by_cases hlt : k < 16
      · obtain ⟨v, hv⟩ : ∃ v, wr.cell? ⟨d, k, none⟩ = some v := ⟨_, by rw [cell_of_block hd2]; exact Array.getElem?_eq_getElem (by omega)⟩
        have f := fz k
        clear hp fz hd2 hs2
        go_wp2_with fail
        go_roundw
        case rel => exact ⟨k + 1, by omega, by go_num, HP.out.set hd' hlt⟩
        case measure => simp [intOf]; omega
      · obtain rfl : k = 16 := by omega
        obtain ⟨v, hv⟩ : ∃ v, wr.cell? ⟨d, 0, none⟩ = some v := ⟨_, by rw [cell_of_block hd2]; exact Array.getElem?_eq_getElem (by omega)⟩
        have f := fz 0
        clear hp fz hd2 hs2
        go_wp2_with fail
        go_ret
        exact HP.out.end HM.out hd' hb'
  · clear hme
    obtain ⟨arr, ha, hmk0⟩ := make_any m (by omega)
    have hmk : ∀ w : World, (Instr.makeSlice 40 (.int .i64 (m : Int)) (.int .i64 (m : Int))).run Try.prog w = .ok (.slice (some ⟨w.heap.size, 0, none⟩) m m) (w.alloc (.cells arr 2)) := hmk0
    have HA := Lib.hid ha
    clear ha hmk0
    go_enter Try.func14, Try.ntmps14
    go_wp2_with fail
    clear hmk
    have M0 : Mid w (w.heap.size + 1) w.heap.size m 0 ((w.alloc (.cells arr 2)).alloc (.cells #[.slice (some ⟨w.heap.size, 0, none⟩) m m] 46)) := by
      refine ⟨?_, ⟨arr, ?_, by have := HA.out; simpa using this, fun i hi => absurd hi (Nat.not_lt_zero _)⟩, by omega, (Chg.alloc _ _ _).trans (Chg.alloc _ _ _)⟩
      · have := block_alloc (w.alloc (.cells arr 2)) (.cells #[.slice (some ⟨w.heap.size, 0, none⟩) m m] 46)
        rw [World.size_alloc] at this; exact this
      · exact Chg.keep (Chg.alloc (fun _ => False) _ _) (block_alloc w (.cells arr 2)) (fun f => f)
    generalize (w.alloc (.cells arr 2)).alloc (.cells #[.slice (some ⟨w.heap.size, 0, none⟩) m m] 46) = w2 at *
    obtain ⟨d, hd⟩ : ∃ d, d = w.heap.size := ⟨_, rfl⟩
    obtain ⟨b, hb⟩ : ∃ b, b = w.heap.size + 1 := ⟨_, rfl⟩
    have hb' : w.heap.size ≤ b := by omega
    have hd' : w.heap.size ≤ d := by omega
    rw [← hb, ← hd] at M0
    rw [← hb, ← hd]
    clear hb hd
    go_loopw [16] (fun i wr => ∃ (k : Nat), k ≤ m ∧ i = .int .i64 k ∧ Mid w b d m k wr) (fun i _ => m - (intOf i).toNat)
    case atStart => exact ⟨0, by omega, rfl, M0⟩
    case round =>
      obtain ⟨k, hk, rfl, hp⟩ := hrel
      clear M0
      have HP := Lib.hid hp
      have c : wr.cell? ⟨b, 0, none⟩ = some (.slice (some ⟨d, 0, none⟩) m m) := by rw [cell_of_block hp.head]; rfl
      obtain ⟨ar, hd2, hs2, _⟩ := hp.data
      have fz : ∀ o, wr.frozen? ⟨d, o, none⟩ = false := fun o => frozen_of_block hd2 o
      by_cases hlt : k < m
      · obtain ⟨v, hv⟩ : ∃ v, wr.cell? ⟨d, k, none⟩ = some v := ⟨_, by rw [cell_of_block hd2]; exact Array.getElem?_eq_getElem (by omega)⟩
        have f := fz k
        clear hp fz hd2 hs2
        go_wp2_with fail
        go_roundw
        case rel => exact ⟨k + 1, by omega, by go_num, HP.out.set hd' hlt⟩
        case measure => simp [intOf]; omega
      · obtain rfl : k = m := by omega
        obtain ⟨v, hv⟩ : ∃ v, wr.cell? ⟨d, 0, none⟩ = some v := ⟨_, by rw [cell_of_block hd2]; exact Array.getElem?_eq_getElem (by omega)⟩
        have f := fz 0
        clear hp fz hd2 hs2
        go_wp2_with fail
        go_ret
        exact HP.out.end HM.out hd' hb'
end Go.Proofs.Ytcdfoofkcgoapaa
