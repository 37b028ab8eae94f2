/- What a slot comes to, node by node. The clocks of a world. No condition. -/
import Derived.Test.YtnpihllannobgaaGreatDoorG18
import Derived.Test.YtnpihllannobgaaGreatDoorG20
namespace Go.Proofs.YtnpihllannobgaaGreatDoor
set_option linter.unusedVariables false
set_option linter.unusedSimpArgs false

section
variable (c : Cfg) (d : Dr) (now : Int) (x : WM)
def vS (i : Nat) : NSt := slotN i (atL d.drift i) (x.nd i)
def vP (i : Nat) : NSt × Int × List Int := planN c i (vS d x i) now
def vA (i : Nat) : Snd := ((vP c d now x i).2.1, (vP c d now x i).2.2, offN (vP c d now x i).1)
def vB (i j : Nat) : Bool :=
  bitW (atL c.near i) (atL d.lost i) j && (!(vA c d now x j).2.1.isEmpty && (vA c d now x j).1 == (vA c d now x i).1) && (!(vP c d now x i).1.synced || withinB (vA c d now x i).2.2 (vA c d now x j).2.2 c.guard)
def vL (i : Nat) : List Nat := (List.range c.nodes).filter (vB c d now x i)
def vM (i j : Nat) : Int := meas (vA c d now x i).2.2 (vA c d now x j).2.2 (atL d.err i) c.err
def vX (j : Nat) : Int × Fr := decF (vA c d now x j).2.1
/-- a node that heard; its events are still there. -/
def vH (i : Nat) : NSt :=
  if (vA c d now x i).2.1.isEmpty then (match vL c d now x i with | [j] => hearN i c (vP c d now x i).1 (vX c d now x j) now (vM c d now x i j) id | _ => (vP c d now x i).1) else (vP c d now x i).1
def vK (i : Nat) : Option (List Int) :=
  if (vA c d now x i).2.1.isEmpty then (match vL c d now x i with | [j] => ansN i c (vP c d now x i).1 (vX c d now x j) now (vM c d now x i j) (backA i (vX c d now x j).2 now (vM c d now x i j)) | _ => none) else none
def vW (i : Nat) : Option (List Int) :=
  if (vX c d now x i).1 == 0 && inR (vX c d now x i).2.dst 0 ((c.nodes : Int) - 1) && bitW (atL c.near i) (atL d.acks i) (vX c d now x i).2.dst.toNat then vK c d now x (vX c d now x i).2.dst.toNat else none
def vQ (i : Nat) : NSt := if (vA c d now x i).2.1.isEmpty then noEv (vH c d now x i) else ackN i (noEv (vH c d now x i)) ((vW c d now x i).getD []) now
def vE (i : Nat) : NSt := endS c i (noEv (vQ c d now x i)) now
end
theorem set_getD {α : Type} (l : List α) (i j : Nat) (v z : α) (h : i < l.length) : (l.set i v).getD j z = if j = i then v else l.getD j z := by
  simp only [List.getD_eq_getElem?_getD, List.getElem?_set]
  by_cases hj : j = i
  · subst hj; simp [h]
  · have hj' : ¬ i = j := fun e => hj e.symm
    rw [if_neg hj', if_neg hj]
theorem tells_nd (c : Cfg) (known : List Int) (x : WM) (l : List Ev) : (WM.tells c known x l).nodes = x.nodes ∧ (WM.tells c known x l).air = x.air ∧ (WM.tells c known x l).back = x.back ∧ (WM.tells c known x l).ev = x.ev ++ l := ⟨rfl, rfl, rfl, rfl⟩
theorem range_snoc {β : Type} (f : Nat → List β) (k : Nat) : (List.range (k + 1)).flatMap f = (List.range k).flatMap f ++ f k := by
  rw [List.range_succ, List.flatMap_append]; simp
section
variable {c : Cfg} {d : Dr} {now : Int} {x : WM} {n : Nat} {known : List Int}
theorem slot1_nd (hn : x.nodes.length = n) : ∀ k, k ≤ n → (iter (driftF d) k x).nodes.length = n ∧ (iter (driftF d) k x).ev = x.ev ∧ ∀ i, i < n → (iter (driftF d) k x).nd i = if i < k then vS d x i else x.nd i := by
  intro k
  induction k with
  | zero => intro _; exact ⟨hn, rfl, fun i _ => by simp [iter]⟩
  | succ k ih =>
    intro hk
    obtain ⟨h1, h2, h3⟩ := ih (by omega)
    refine ⟨by simp [iter, driftF, h1], by simp [iter, driftF, h2], fun i hi => ?_⟩
    show (WM.put (iter (driftF d) k x) k _).nodes.getD i s00 = _
    unfold WM.put
    simp only []
    rw [set_getD _ _ _ _ _ (by omega)]
    by_cases hik : i = k
    · subst hik
      rw [if_pos rfl, if_pos (by omega), h3 i hi, if_neg (by omega)]; rfl
    · rw [if_neg hik]
      refine (h3 i hi).trans ?_
      by_cases h : i < k
      · rw [if_pos h, if_pos (by omega)]
      · rw [if_neg h, if_neg (by omega)]
theorem slot2_nd {y : WM} (hn : y.nodes.length = n) (ha : y.air.length = n) : ∀ k, k ≤ n → (iter (planF c now) k y).nodes.length = n ∧ (iter (planF c now) k y).ev = y.ev ∧ (iter (planF c now) k y).air.length = n ∧
    ∀ i, i < n → (iter (planF c now) k y).nd i = (if i < k then (planN c i (y.nd i) now).1 else y.nd i) ∧
      (iter (planF c now) k y).snd i = (if i < k then ((planN c i (y.nd i) now).2.1, (planN c i (y.nd i) now).2.2, offN (planN c i (y.nd i) now).1) else y.snd i) := by
  intro k
  induction k with
  | zero => intro _; exact ⟨hn, rfl, ha, fun i _ => by simp [iter]⟩
  | succ k ih =>
    intro hk
    obtain ⟨h1, h2, h0, h3⟩ := ih (by omega)
    refine ⟨by simp [iter, planF, h1], by simp [iter, planF, h2], by simp [iter, planF, h0], fun i hi => ⟨?_, ?_⟩⟩
    · show (List.set _ k _).getD i s00 = _
      rw [set_getD _ _ _ _ _ (by omega)]
      by_cases hik : i = k
      · subst hik
        rw [if_pos rfl, if_pos (by omega), (h3 i hi).1, if_neg (by omega)]
      · rw [if_neg hik]
        refine ((h3 i hi).1).trans ?_
        by_cases h : i < k
        · rw [if_pos h, if_pos (by omega)]
        · rw [if_neg h, if_neg (by omega)]
    · show (List.set _ k _).getD i (0, [], 0) = _
      rw [set_getD _ _ _ _ _ (by omega)]
      by_cases hik : i = k
      · subst hik
        rw [if_pos rfl, if_pos (by omega), (h3 i hi).1, if_neg (by omega)]
      · rw [if_neg hik]
        refine ((h3 i hi).2).trans ?_
        by_cases h : i < k
        · rw [if_pos h, if_pos (by omega)]
        · rw [if_neg h, if_neg (by omega)]
/-- behind the plans. -/
theorem at2 (hn : x.nodes.length = n) : (slot2W c d n now x).nodes.length = n ∧ (slot2W c d n now x).ev = x.ev ∧ ∀ i, i < n → (slot2W c d n now x).nd i = (vP c d now x i).1 ∧ (slot2W c d n now x).snd i = vA c d now x i := by
  obtain ⟨h1, h2, h3⟩ := slot1_nd (d := d) hn n (Nat.le_refl _)
  obtain ⟨k1, k2, k3, k4⟩ := slot2_nd (c := c) (now := now) (y := { slot1W d n x with air := List.replicate n (0, [], 0) }) (n := n) h1 (by simp) n (Nat.le_refl _)
  refine ⟨k1, k2.trans h2, fun i hi => ?_⟩
  obtain ⟨k5, k6⟩ := k4 i hi
  rw [if_pos hi] at k5 k6
  have e : WM.nd { slot1W d n x with air := List.replicate n (0, [], 0) } i = vS d x i := by
    have := h3 i hi
    rw [if_pos hi] at this
    exact this
  rw [e] at k5 k6
  exact ⟨k5, k6⟩
theorem hears_eq {y : WM} (hy : ∀ j, j < c.nodes → y.snd j = vA c d now x j) {i : Nat} (hi : i < c.nodes) (h : y.nd i = (vP c d now x i).1) : heardW c d y i = vL c d now x i := by
  unfold heardW vL
  apply List.filter_congr
  intro j hj
  rw [List.mem_range] at hj
  unfold hearsB vB
  rw [hy i hi, hy j hj, h]
theorem vL_lt {i j : Nat} (h : vL c d now x i = [j]) : j < c.nodes := by
  have : j ∈ vL c d now x i := by rw [h]; simp
  unfold vL at this
  rw [List.mem_filter, List.mem_range] at this
  exact this.1
def vEv (c : Cfg) (d : Dr) (now : Int) (x : WM) (i : Nat) : List Ev := (vH c d now x i).ev
def vQv (c : Cfg) (d : Dr) (now : Int) (x : WM) (i : Nat) : List Ev := if (vA c d now x i).2.1.isEmpty then [] else (vQ c d now x i).ev
theorem slot3_nd {y : WM} (hc : c.nodes = n) (hn : y.nodes.length = n) (hb : y.back.length = n) (hy : ∀ j, j < n → y.nd j = (vP c d now x j).1 ∧ y.snd j = vA c d now x j) (hbk : ∀ j, j < n → y.back.getD j none = none) (hev : ∀ j, j < n → (vP c d now x j).1.ev = []) :
    ∀ k, k ≤ n → (iter (hearF c d known now) k y).nodes.length = n ∧ (iter (hearF c d known now) k y).back.length = n ∧ (iter (hearF c d known now) k y).air = y.air ∧ (iter (hearF c d known now) k y).ev = y.ev ++ (List.range k).flatMap (vEv c d now x) ∧
    ∀ i, i < n → (iter (hearF c d known now) k y).nd i = (if i < k then noEv (vH c d now x i) else y.nd i) ∧ (iter (hearF c d known now) k y).back.getD i none = (if i < k then vK c d now x i else none) := by
  intro k
  induction k with
  | zero => intro _; exact ⟨hn, hb, rfl, by simp [iter], fun i hi => ⟨by simp [iter], (hbk i hi).trans (by simp)⟩⟩
  | succ k ih =>
    intro hk
    obtain ⟨h1, h2, h3, h4, h5⟩ := ih (by omega)
    have hkn : k < n := by omega
    obtain ⟨n1, n2⟩ := h5 k hkn
    rw [if_neg (by omega)] at n1 n2
    generalize hz : iter (hearF c d known now) k y = z at *
    have hsn : ∀ j, z.snd j = y.snd j := fun j => by unfold WM.snd; rw [h3]
    have hzl : heardW c d z k = vL c d now x k := hears_eq (fun j hj => (hsn j).trans (hy j (by omega)).2) (by omega) (n1.trans (hy k hkn).1)
    have hstep : iter (hearF c d known now) (k + 1) y = hearF c d known now k z := by rw [← hz]; rfl
    have hsk : z.snd k = vA c d now x k := (hsn k).trans (hy k hkn).2
    have key : ∀ (s : NSt) (a : Option (List Int)) (l : List Ev) (q : WM), q.nodes = z.nodes.set k s → q.air = z.air → q.ev = z.ev ++ l → q.back = z.back.set k a → noEv (vH c d now x k) = s → vK c d now x k = a → l = vEv c d now x k →
        q.nodes.length = n ∧ q.back.length = n ∧ q.air = y.air ∧ q.ev = y.ev ++ (List.range (k + 1)).flatMap (vEv c d now x) ∧
        ∀ i, i < n → q.nd i = (if i < k + 1 then noEv (vH c d now x i) else y.nd i) ∧ q.back.getD i none = (if i < k + 1 then vK c d now x i else none) := by
      intro s a l q q1 q2 q3 q4 e1 e2 e3
      refine ⟨by rw [q1]; simp [h1], by rw [q4]; simp [h2], q2.trans h3, by rw [q3, h4, range_snoc, e3, List.append_assoc], fun i hi => ⟨?_, ?_⟩⟩
      · show q.nodes.getD i s00 = _
        rw [q1, set_getD _ _ _ _ _ (by omega)]
        by_cases hik : i = k
        · subst hik; rw [if_pos rfl, if_pos (by omega), e1]
        · rw [if_neg hik]
          refine ((h5 i hi).1).trans ?_
          by_cases h : i < k
          · rw [if_pos h, if_pos (by omega)]
          · rw [if_neg h, if_neg (by omega)]
      · rw [q4, set_getD _ _ _ _ _ (by omega)]
        by_cases hik : i = k
        · subst hik; rw [if_pos rfl, if_pos (by omega), e2]
        · rw [if_neg hik, (h5 i hi).2]
          by_cases h : i < k
          · rw [if_pos h, if_pos (by omega)]
          · rw [if_neg h, if_neg (by omega)]
    have hself : z.nodes = z.nodes.set k (z.nd k) := by
      have := congrArg WM.nodes (show z.put k (z.nd k) = z from by
        unfold WM.put WM.nd
        have : z.nodes.set k (z.nodes.getD k s00) = z.nodes := by
          apply List.ext_getElem?
          intro j
          rw [List.getElem?_set]
          by_cases hj : k = j
          · subst hj; simp [h1, hkn]
          · rw [if_neg hj]
        rw [this])
      exact this.symm
    have hbself : z.back = z.back.set k none := by
      apply List.ext_getElem?
      intro j
      rw [List.getElem?_set]
      by_cases hj : k = j
      · subst hj
        rw [if_pos rfl, if_pos (by omega)]
        rw [List.getD_eq_getElem?_getD, List.getElem?_eq_getElem (by omega)] at n2
        rw [List.getElem?_eq_getElem (by omega)]
        simpa using n2
      · rw [if_neg hj]
    have hquiet : hearF c d known now k z = z → vH c d now x k = (vP c d now x k).1 → vK c d now x k = none → (iter (hearF c d known now) (k + 1) y).nodes.length = n ∧ (iter (hearF c d known now) (k + 1) y).back.length = n ∧ (iter (hearF c d known now) (k + 1) y).air = y.air ∧ (iter (hearF c d known now) (k + 1) y).ev = y.ev ++ (List.range (k + 1)).flatMap (vEv c d now x) ∧
      ∀ i, i < n → (iter (hearF c d known now) (k + 1) y).nd i = (if i < k + 1 then noEv (vH c d now x i) else y.nd i) ∧ (iter (hearF c d known now) (k + 1) y).back.getD i none = (if i < k + 1 then vK c d now x i else none) := fun e1 e2 e3 => by
      rw [hstep, e1]
      exact key (z.nd k) none [] z hself rfl (by simp) hbself (by rw [e2, n1, (hy k hkn).1]; exact noEv_same (hev k hkn)) e3 (by unfold vEv; rw [e2, hev k hkn])
    by_cases hem : (vA c d now x k).2.1.isEmpty = true
    · cases hl : vL c d now x k with
      | nil =>
        refine hquiet ?_ ?_ ?_
        · unfold hearF; rw [hsk, if_pos hem, hzl, hl]
        · unfold vH; rw [if_pos hem, hl]
        · unfold vK; rw [if_pos hem, hl]
      | cons j t =>
        cases t with
        | cons _ _ =>
          refine hquiet ?_ ?_ ?_
          · unfold hearF; rw [hsk, if_pos hem, hzl, hl]
          · unfold vH; rw [if_pos hem, hl]
          · unfold vK; rw [if_pos hem, hl]
        | nil =>
          have hj : j < n := hc ▸ vL_lt hl
          have hsj : z.snd j = vA c d now x j := (hsn j).trans (hy j hj).2
          have e : hearF c d known now k z = hear1W c d known now k j z := by unfold hearF; rw [hsk, if_pos hem, hzl, hl]
          rw [hstep, e]
          have hm : msW c d z k j = vM c d now x k j := by unfold msW vM; rw [hsk, hsj]
          refine key _ _ _ _ rfl rfl rfl rfl ?_ ?_ ?_
          · rw [hm, hsj, n1, (hy k hkn).1]; unfold vH; rw [if_pos hem, hl]; rfl
          · rw [hm, hsj, n1, (hy k hkn).1]; unfold vK; rw [if_pos hem, hl]; rfl
          · rw [hm, hsj, n1, (hy k hkn).1]; unfold vEv vH; rw [if_pos hem, hl]; rfl
    · refine hquiet ?_ ?_ ?_
      · unfold hearF; rw [hsk, if_neg hem]
      · unfold vH; rw [if_neg hem]
      · unfold vK; rw [if_neg hem]
theorem ans_eq {z : WM} (hn : c.nodes = n) {k : Nat} (hk : k < n) (hs : z.snd k = vA c d now x k) (hb : ∀ j, j < n → z.back.getD j none = vK c d now x j) : answerW c d z k = vW c d now x k := by
  unfold answerW vW
  rw [hs]
  show (if (vX c d now x k).1 == 0 && inR (vX c d now x k).2.dst 0 ((c.nodes : Int) - 1) && bitW (atL c.near k) (atL d.acks k) (vX c d now x k).2.dst.toNat then z.back.getD (vX c d now x k).2.dst.toNat none else none) = _
  by_cases h : ((vX c d now x k).1 == 0 && inR (vX c d now x k).2.dst 0 ((c.nodes : Int) - 1) && bitW (atL c.near k) (atL d.acks k) (vX c d now x k).2.dst.toNat) = true
  · rw [if_pos h, if_pos h]
    apply hb
    simp only [Bool.and_eq_true, inR, decide_eq_true_eq] at h
    omega
  · rw [if_neg h, if_neg h]
/-- nodes one after the other, each by itself. -/
theorem one_nd {f : Nat → WM → WM} {y : WM} {N : Nat → NSt} {L : Nat → List Ev} (hn : y.nodes.length = n)
    (hf : ∀ k z, k < n → z.nodes.length = n → z.air = y.air → z.back = y.back → z.nd k = y.nd k → (f k z).nodes = z.nodes.set k (N k) ∧ (f k z).air = z.air ∧ (f k z).back = z.back ∧ (f k z).ev = z.ev ++ L k) :
    ∀ k, k ≤ n → (iter f k y).nodes.length = n ∧ (iter f k y).air = y.air ∧ (iter f k y).back = y.back ∧ (iter f k y).ev = y.ev ++ (List.range k).flatMap L ∧ ∀ i, i < n → (iter f k y).nd i = if i < k then N i else y.nd i := by
  intro k
  induction k with
  | zero => intro _; exact ⟨hn, rfl, rfl, by simp [iter], fun i _ => by simp [iter]⟩
  | succ k ih =>
    intro hk
    obtain ⟨h1, h2, h3, h4, h5⟩ := ih (by omega)
    have hkn : k < n := by omega
    have n1 := h5 k hkn
    rw [if_neg (by omega)] at n1
    have hstep : iter f (k + 1) y = f k (iter f k y) := rfl
    rw [hstep]
    generalize iter f k y = z at *
    obtain ⟨q1, q2, q3, q4⟩ := hf k z hkn h1 h2 h3 n1
    refine ⟨by rw [q1]; simp [h1], q2.trans h2, q3.trans h3, by rw [q4, h4, range_snoc, List.append_assoc], fun i hi => ?_⟩
    show (f k z).nodes.getD i s00 = _
    rw [q1, set_getD _ _ _ _ _ (by omega)]
    by_cases hik : i = k
    · subst hik; rw [if_pos rfl, if_pos (by omega)]
    · rw [if_neg hik]
      refine (h5 i hi).trans ?_
      by_cases h : i < k
      · rw [if_pos h, if_pos (by omega)]
      · rw [if_neg h, if_neg (by omega)]
theorem set_self {z : WM} {k : Nat} (h : k < z.nodes.length) : z.nodes.set k (z.nd k) = z.nodes := by
  unfold WM.nd
  apply List.ext_getElem?
  intro j
  rw [List.getElem?_set]
  by_cases hj : k = j
  · subst hj; simp [h]
  · rw [if_neg hj]
theorem slot4_nd {y : WM} (hc : c.nodes = n) (hn : y.nodes.length = n) (hy : ∀ j, j < n → y.nd j = noEv (vH c d now x j) ∧ y.snd j = vA c d now x j ∧ y.back.getD j none = vK c d now x j) :
    ∀ k, k ≤ n → (iter (ackF c d known now) k y).nodes.length = n ∧ (iter (ackF c d known now) k y).air = y.air ∧ (iter (ackF c d known now) k y).back = y.back ∧ (iter (ackF c d known now) k y).ev = y.ev ++ (List.range k).flatMap (vQv c d now x) ∧
    ∀ i, i < n → (iter (ackF c d known now) k y).nd i = (if i < k then noEv (vQ c d now x i) else y.nd i) := by
  refine one_nd hn (fun k z hk z1 z2 z3 z4 => ?_)
  have hsk : z.snd k = vA c d now x k := by have := (hy k hk).2.1; unfold WM.snd at this ⊢; rw [z2]; exact this
  have hnk : z.nd k = noEv (vH c d now x k) := z4.trans (hy k hk).1
  by_cases hem : (vA c d now x k).2.1.isEmpty = true
  · have e : ackF c d known now k z = z := by unfold ackF; rw [hsk, if_pos hem]
    have eq : vQ c d now x k = noEv (vH c d now x k) := by unfold vQ; rw [if_pos hem]
    rw [e]
    refine ⟨?_, rfl, rfl, by unfold vQv; rw [if_pos hem]; simp⟩
    rw [eq]
    show z.nodes = z.nodes.set k (noEv (vH c d now x k))
    rw [← hnk, set_self (by omega)]
  · have ea : answerW c d z k = vW c d now x k := ans_eq hc hk hsk (fun j hj => by rw [z3]; exact (hy j hj).2.2)
    have eq : vQ c d now x k = ackN k (noEv (vH c d now x k)) ((vW c d now x k).getD []) now := by unfold vQ; rw [if_neg hem]
    have e : ackF c d known now k z = WM.tells c known (z.put k (noEv (vQ c d now x k))) (vQ c d now x k).ev := by
      unfold ackF; rw [hsk, if_neg hem, ea, hnk, eq]
    rw [e]
    exact ⟨rfl, rfl, rfl, by unfold vQv; rw [if_neg hem]; rfl⟩
theorem slot5_nd {y : WM} (hn : y.nodes.length = n) (hy : ∀ j, j < n → y.nd j = noEv (vQ c d now x j)) :
    ∀ k, k ≤ n → (iter (endF c known now) k y).nodes.length = n ∧ (iter (endF c known now) k y).air = y.air ∧ (iter (endF c known now) k y).back = y.back ∧ (iter (endF c known now) k y).ev = y.ev ++ (List.range k).flatMap (fun i => (vE c d now x i).ev) ∧
    ∀ i, i < n → (iter (endF c known now) k y).nd i = (if i < k then noEv (vE c d now x i) else y.nd i) := by
  refine one_nd hn (fun k z hk z1 z2 z3 z4 => ?_)
  have hnk : z.nd k = noEv (vQ c d now x k) := z4.trans (hy k hk)
  unfold endF
  rw [hnk]
  exact ⟨rfl, rfl, rfl, rfl⟩
/-- a slot, node by node. -/
theorem slot_nd (hc : c.nodes = n) (hn : x.nodes.length = n) (hev : ∀ j, j < n → (x.nd j).ev = []) :
    (slot5W c d n now x).nodes.length = n ∧
    (slot5W c d n now x).ev = x.ev ++ (List.range n).flatMap (vEv c d now x) ++ (List.range n).flatMap (vQv c d now x) ++ (List.range n).flatMap (fun i => (vE c d now x i).ev) ∧
    ∀ i, i < n → (slot5W c d n now x).nd i = noEv (vE c d now x i) := by
  obtain ⟨a1, a2, a3⟩ := at2 (c := c) (d := d) (now := now) hn
  have hpe : ∀ j, j < n → (vP c d now x j).1.ev = [] := fun j hj => by
    unfold vP planN vS
    split
    · exact hev j hj
    · exact hev j hj
  obtain ⟨b1, b2, b3, b4, b5⟩ := slot3_nd (c := c) (d := d) (now := now) (x := x) (known := (slot1W d n x).bound) (y := { slot2W c d n now x with back := List.replicate n none }) hc a1 (by simp) a3
    (fun j hj => by simp [List.getD_eq_getElem?_getD, List.getElem?_replicate, hj]) hpe n (Nat.le_refl _)
  have h3 : slot3W c d n now x = iter (hearF c d (slot1W d n x).bound now) n { slot2W c d n now x with back := List.replicate n none } := rfl
  rw [← h3] at b1 b2 b3 b4 b5
  obtain ⟨c1, c2, c3, c4, c5⟩ := slot4_nd (c := c) (d := d) (now := now) (x := x) (known := (slot1W d n x).bound) (y := slot3W c d n now x) hc b1 (fun j hj => by
    obtain ⟨k1, k2⟩ := b5 j hj
    rw [if_pos hj] at k1 k2
    refine ⟨k1, ?_, k2⟩
    have := (a3 j hj).2
    unfold WM.snd at this ⊢
    rw [b3]; exact this) n (Nat.le_refl _)
  have h4 : slot4W c d n now x = iter (ackF c d (slot1W d n x).bound now) n (slot3W c d n now x) := rfl
  rw [← h4] at c1 c2 c3 c4 c5
  obtain ⟨e1, e2, e3, e4, e5⟩ := slot5_nd (c := c) (d := d) (now := now) (x := x) (known := (slot1W d n x).bound) (y := slot4W c d n now x) c1 (fun j hj => by
    have := c5 j hj
    rw [if_pos hj] at this
    exact this) n (Nat.le_refl _)
  have h5 : slot5W c d n now x = iter (endF c (slot1W d n x).bound now) n (slot4W c d n now x) := rfl
  rw [← h5] at e1 e2 e3 e4 e5
  refine ⟨e1, ?_, fun i hi => by have := e5 i hi; rw [if_pos hi] at this; exact this⟩
  rw [e4, c4, b4]
  show (slot2W c d n now x).ev ++ _ ++ _ ++ _ = _
  rw [a2]
end
end Go.Proofs.YtnpihllannobgaaGreatDoor
namespace Go.Proofs.YtnpihllannobgaaGreatDoor
set_option linter.unusedVariables false
set_option linter.unusedSimpArgs false
open Go.ChangeShapes Go.WideShapes Go.ChangeAt Go.RowKit

def stpV (k i t : Int) (dr lo ac er da : Value) : Value := .agg #[.int .i64 k, .int .i64 i, .int .i64 t, dr, lo, ac, er, da]
/-- a step's slices. -/
structure So (w : World) (o : Cls) (d : Dr) (dr lo ac er da : Value) : Prop where
  drift : RV VI w o dr d.drift
  lost : RV VU w o lo d.lost
  acks : RV VU w o ac d.acks
  err : RV VI w o er d.err
  da : ∃ A n c, da = .slice A n c
  lb : ∀ z ∈ d.lost, 0 ≤ z ∧ z < 18446744073709551616
  ab : ∀ z ∈ d.acks, 0 ≤ z ∧ z < 18446744073709551616
theorem cell8 {w : World} {b : Nat} {t : TypeId} {v0 v1 v2 v3 v4 v5 v6 v7 : Value} (h : w.heap[b]? = some (.cells #[v0, v1, v2, v3, v4, v5, v6, v7] t (0, 0))) :
    w.cell? ⟨b, 0, none⟩ = some v0 ∧ w.cell? ⟨b, 1, none⟩ = some v1 ∧ w.cell? ⟨b, 2, none⟩ = some v2 ∧ w.cell? ⟨b, 3, none⟩ = some v3 ∧ w.cell? ⟨b, 4, none⟩ = some v4 ∧ w.cell? ⟨b, 5, none⟩ = some v5 ∧ w.cell? ⟨b, 6, none⟩ = some v6 ∧ w.cell? ⟨b, 7, none⟩ = some v7 := by
  refine ⟨?_, ?_, ?_, ?_, ?_, ?_, ?_, ?_⟩ <;> rw [cell_of_block h] <;> rfl
section
variable {w0 w w' : World} {o0 o o' : Cls} {c : Cfg} {W : Nat} {x x' : WM} {asn : Int} {r r' : WR} {d : Dr} {dr lo ac er da : Value} {S : Nat → Prop}
theorem So.step (h : So w o d dr lo ac er da) (e : Ext w o o') (g : Chg S w w') (n0 : ∀ k, o k = 0 → ¬ S k) : So w' o' d dr lo ac er da :=
  ⟨h.drift.step e g n0, h.lost.step e g n0, h.acks.step e g n0, h.err.step e g n0, h.da, h.lb, h.ab⟩
theorem WAt.n0 (h : WAt w0 o0 c W x asn w o r) (z : Z w0 o0) : ∀ k, o0 k = 0 → ¬ WdS o0 k := fun k hk hs => hs.1 hk
theorem WAt.so (h : WAt w0 o0 c W x asn w o r) (k : So w0 o0 d dr lo ac er da) : So w o d dr lo ac er da := k.step h.ext h.chg (fun k hk hs => hs.1 hk)
/-- what the clocks may be. -/
def DriftOk (d : Dr) (i : Nat) (s : NSt) : Prop := (-1000000000000 ≤ s.sum ∧ s.sum ≤ 1000000000000) ∧ (0 ≤ s.slots ∧ s.slots ≤ 1000000) ∧ (0 ≤ s.listened ∧ s.listened ≤ 1000000)
def BndOk (x : WM) : Prop := ∀ i, -1 ≤ atL x.bound i ∧ atL x.bound i ≤ 1000000000
theorem atL_set (L : List Int) (i j : Nat) (v : Int) (h : i < L.length) : atL (L.set i v) j = if j = i then v else atL L j := by
  unfold atL; exact set_getD L i j v 0 h
theorem set_atL (L : List Int) (i : Nat) (h : i < L.length) : L.set i (atL L i) = L := by
  apply List.ext_getElem?
  intro j
  rw [List.getElem?_set]
  by_cases hj : i = j
  · subst hj; simp [atL, h]
  · rw [if_neg hj]
theorem drift_bnd (d : Dr) (x : WM) : ∀ k, k ≤ x.bound.length → (iter (driftF d) k x).bound.length = x.bound.length ∧ ∀ i, atL (iter (driftF d) k x).bound i = if i < k then ageB i (atL x.bound i) else atL x.bound i := by
  intro k
  induction k with
  | zero => intro _; exact ⟨rfl, fun i => by simp [iter]⟩
  | succ k ih =>
    intro hk
    obtain ⟨h1, h2⟩ := ih (by omega)
    refine ⟨by simp [iter, driftF, h1], fun i => ?_⟩
    show atL (List.set _ k _) i = _
    rw [atL_set _ _ _ _ (by omega)]
    by_cases hik : i = k
    · subst hik
      rw [if_pos rfl, if_pos (by omega), h2 i, if_neg (by omega)]
    · rw [if_neg hik, h2 i]
      by_cases h : i < k
      · rw [if_pos h, if_pos (by omega)]
      · rw [if_neg h, if_neg (by omega)]
set_option maxRecDepth 100000 in
set_option maxHeartbeats 8000000 in
theorem wdrift_any (hc : CfgOk c) (h : WAt w0 o0 c W x asn w o r) (ha : 0 ≤ asn ∧ asn < 1099511627776) (k i t : Int) (hs : So w o d dr lo ac er da) (hd : ∀ i, i < c.nodes → DriftOk d i (x.nd i)) (hb : BndOk x) :
    Calls Tryz.prog 31 #[VP W, stpV k i t dr lo ac er da] w (PW w0 o0 c W (slot1W d c.nodes x) asn r (fun v w' o' => RV VI w' o' v (slot1W d c.nodes x).bound)) := by
  have hn0 := hc.n0
  have hn1 := hc.n1
  have HSO := Lib.hid hs
  obtain ⟨dA, dc, hdr, _⟩ := hs.drift
  obtain ⟨lA, lc, hlo, _⟩ := hs.lost
  obtain ⟨aA, acp, hac, _⟩ := hs.acks
  obtain ⟨eA, ec, her, _⟩ := hs.err
  obtain ⟨xA, xn, xc, hda⟩ := hs.da
  obtain ⟨dn, hdn⟩ : ∃ n, n = d.drift.length := ⟨_, rfl⟩
  obtain ⟨ln, hln⟩ : ∃ n, n = d.lost.length := ⟨_, rfl⟩
  obtain ⟨an, han⟩ : ∃ n, n = d.acks.length := ⟨_, rfl⟩
  obtain ⟨en, hen⟩ : ∃ n, n = d.err.length := ⟨_, rfl⟩
  rw [← hdn] at hdr
  rw [← hln] at hlo
  rw [← han] at hac
  rw [← hen] at her
  subst hdr hlo hac her hda
  have H := Lib.hid h
  obtain ⟨lg, lcap, hlv, hlc⟩ := h.rowval (by omega)
  have HLC := Lib.hid (And.intro hlv hlc)
  obtain ⟨gb, bcap, hbv⟩ := h.bndval (by omega)
  have HBV := Lib.hid hbv
  have HDO := Lib.hid hd
  have HBO := Lib.hid hb
  have c9 : w.cell? ⟨W, 9, none⟩ = some (.slice (some ⟨lg, 0, none⟩) c.nodes lcap) := by rw [← hlv]; exact h.cell 9
  have ga := Chg.alloc (fun _ => False) w (.cells #[.int .i64 k, .int .i64 i, .int .i64 t, .slice dA dn dc, .slice lA ln lc, .slice aA an acp, .slice eA en ec, .slice xA xn xc] 35)
  have hba := block_alloc w (.cells #[.int .i64 k, .int .i64 i, .int .i64 t, .slice dA dn dc, .slice lA ln lc, .slice aA an acp, .slice eA en ec, .slice xA xn xc] 35)
  have c9a := cell_al c9 (.cells #[.int .i64 k, .int .i64 i, .int .i64 t, .slice dA dn dc, .slice lA ln lc, .slice aA an acp, .slice eA en ec, .slice xA xn xc] 35)
  have HB := Lib.hid (And.intro hba (h.z _ (Nat.le_refl _)))
  have HA := Lib.hid (And.intro (h.kept hn1 ga) ga)
  obtain ⟨F, hF⟩ : ∃ F, F = slot1W d c.nodes x := ⟨_, rfl⟩
  rw [← hF]
  have HF := Lib.hid hF
  clear h hs hdn hln han hen hlv hlc hbv hd hb ga hba hF
  unfold VP stpV
  go_enter Tryz.func31, Tryz.ntmps31
  go_wp2_with fail
  generalize w.alloc (.cells #[.int .i64 k, .int .i64 i, .int .i64 t, .slice dA dn dc, .slice lA ln lc, .slice aA an acp, .slice eA en ec, .slice xA xn xc] 35) = w1 at *
  obtain ⟨sb, hsb⟩ : ∃ sb, sb = w.heap.size := ⟨_, rfl⟩
  rw [← hsb] at HB ⊢
  clear hsb
  have HST := Lib.hid (WAt.start HA.out.1.wd HA.out.1.z)
  have HS1 := Lib.hid (HSO.out.step (Ext.refl _ _) HA.out.2 (fun _ _ e => e))
  clear c9 c9a
  go_loopw [12] (fun i wr => ∃ (q : Nat), q ≤ c.nodes ∧ i = .int .i64 q ∧ ∃ o', WAt w1 o c W (iter (driftF d) q x) asn wr o' r) (fun i _ => c.nodes - (intOf i).toNat)
  case atStart => exact ⟨0, by omega, rfl, o, HST.out⟩
  case round =>
    obtain ⟨q, hq, rfl, o1, hA⟩ := hrel
    have HQ := Lib.hid hA
    by_cases hlt : q < c.nodes
    · obtain ⟨b, nr, hbs, hN⟩ := hA.get q hlt
      obtain ⟨g2, cap2, hg2, hrc⟩ := hA.rowval (by omega)
      have hbc := hrc q b hbs
      rw [HLC.out.1] at hg2
      cases hg2
      have hnd : (iter (driftF d) q x).nd q = x.nd q := by
        have := (slot1_nd (d := d) HST.out.wd.nl q (by omega)).2.2 q hlt
        rw [if_neg (by omega)] at this
        exact this
      obtain ⟨hd1, hd2, hd3⟩ := HDO.out q hlt
      rw [hnd] at hN
      have i1 : (q : Int) < (c.nodes : Int) := by omega
      have hb1 := Chg.keep hA.chg HB.out.1 (fun e => e.1 HB.out.2)
      obtain ⟨d0, d1, d2, d3, d4, d5, d6, d7⟩ := cell8 hb1
      have c10 : wr.cell? ⟨W, 10, none⟩ = some (.int .i64 asn) := hA.cell 10
      have HN := Lib.hid (And.intro hbs hN)
      have hSr := HST.out
      have HAT := Lib.hid (show Calls Tryz.prog 54 #[.slice dA dn dc, .int .i64 q] wr.drew (fun e w'' => e = .returned (.int .i64 (atL d.drift q)) ∧ w'' = wr.drew) from
        at54_any (o := o1) _ _ q ((hA.so HS1.out).drift.keep (S := fun _ => False) (Chg.drew _ wr) (fun _ _ e => e)))
      have HSL := Lib.hid (nslot_any (NAt.start (hN.kept (Chg.drew _ wr)).nd (hN.kept (Chg.drew _ wr)).z) asn (atL d.drift q) ha.1 ha.2 hd1 hd2 hd3)
      unfold VP at hbc
      clear hA hN hnd hrc hb1 hbs
      go_wp2_with fail
      refine wp_region_still_tail 9 (by kernel_rfl) (by kernel_rfl) ?_
      simp only [List.take_succ_cons, List.take_zero, List.drop_succ_cons, List.drop_zero]
      repeat still_step
      refine wpStill_step (fun K hK => ?_)
      go_simp
      refine ⟨_, HAT.out, hK _ ?_⟩
      clear hK K
      refine wpStill_nil ?_
      change wpList _ _ _ _ _ wr.drew
      have HQD := Lib.hid (HQ.out.kept hn1 (Chg.drew _ wr))
      generalize wr.drew = w2 at *
      go_wp2_with fail
      (with_reducible refine HSL.out.mono ?_)
      rintro en w3 ⟨v3, o3, nr3, rfl, hN3, rfl⟩
      obtain ⟨X, hX⟩ : ∃ X, X = iter (driftF d) q x := ⟨_, rfl⟩
      have hA3 := HQD.out.node hn1 hlt HN.out.1 hN3
      rw [← hX] at hA3
      have hXb : X.bound.length = c.nodes := hA3.blen
      have hB0 : atL X.bound q = atL x.bound q := by
        rw [hX]
        have := (drift_bnd d x q (by rw [HST.out.blen]; omega)).2 q
        rw [if_neg (by omega)] at this
        exact this
      have hnd : X.nd q = x.nd q := by
        rw [hX]
        have := (slot1_nd (d := d) HST.out.wd.nl q (by omega)).2.2 q hlt
        rw [if_neg (by omega)] at this
        exact this
      have hnx : iter (driftF d) (q + 1) x = { X.put q (slotN q (atL d.drift q) (x.nd q)) with bound := X.bound.set q (ageB q (atL x.bound q)) } := by
        have : iter (driftF d) (q + 1) x = driftF d q X := by rw [hX]; rfl
        rw [this, ← hnd, ← hB0]; rfl
      obtain ⟨B, hB⟩ : ∃ B, B = atL x.bound q := ⟨_, rfl⟩
      have hBr := HBO.out q
      have bc := hA3.bcell HBV.out q hlt
      have hbb : atL (X.put q (slotN q (atL d.drift q) (x.nd q))).bound q = B := by rw [hB, ← hB0]; rfl
      rw [hbb] at bc
      rw [← hB] at hBr hnx hB0
      obtain ⟨Y, hY⟩ : ∃ Y, Y = X.put q (slotN q (atL d.drift q) (x.nd q)) := ⟨_, rfl⟩
      have hYb : Y.bound = X.bound := by rw [hY]; rfl
      rw [← hY] at hA3 hnx
      have HNX := Lib.hid hnx
      have HYB := Lib.hid (show Y.bound.set q B = Y.bound from by rw [hYb, ← hB0]; exact set_atL _ _ (by omega))
      have HA3 := Lib.hid hA3
      have hbY : atL Y.bound q = B := by rw [hYb]; exact hB0
      have c11 : w3.cell? ⟨W, 11, none⟩ = some (.slice (some ⟨gb, 0, none⟩) c.nodes bcap) := by rw [← HBV.out]; exact hA3.cell 11
      have hYX : X.bound = Y.bound := hYb.symm
      have HYX := Lib.hid hYX
      clear hX hXb hnd hnx hbb hB hY hYb hA3 hN3 HQD HQ HN HAT HSL hB0 hYX
      by_cases hq0 : q = 0
      · have HQ0 := Lib.hid hq0
        have b0 : decide (0 < (q : Int)) = false := by simp; omega
        have b00 : ¬ 0 < q := by omega
        clear hbY hq0 d0 d1 d2 d3 d4 d5 d6 d7 c10
        go_wp2_with fail
        go_roundw
        case measure => simp [intOf]; omega
        case rel =>
          refine ⟨q + 1, by omega, by go_num, o3, ?_⟩
          rw [HNX.out, HYX.out]
          unfold ageB
          rw [if_neg (by have := HQ0.out; omega), HYB.out]
          exact HA3.out
      · have b0 : decide (0 < (q : Int)) = true := by simp; omega
        have hq1 : 0 < q := by omega
        by_cases hBn : 0 ≤ B
        · have HBN := Lib.hid hBn
          have e1 : IntKind.i64.wrap (B + 1) = B + 1 := IntWalk.i64_in _ (by omega)
          have hlt2 : B + 1 < 1000000000000 := by omega
          have HAD := Lib.hid (HA3.out.kept hn1 (Chg.drew _ w3))
          have bcd := HAD.out.bcell HBV.out q hlt
          have bfd := HAD.out.bfr HBV.out q
          clear d0 d1 d2 d3 d4 d5 d6 d7 c10 hq0
          have hbd : atL Y.bound q = B := hbY
          rw [hbd] at bcd
          clear hbd hbY
          go_wp2_with fail
          go_still_tail 15, (by kernel_rfl)
          change wpList _ _ _ _ _ w3.drew
          generalize w3.drew = w4 at *
          go_wp2_with fail
          go_roundw
          case measure => simp [intOf]; omega
          case rel =>
            refine ⟨q + 1, by omega, by go_num, o3, ?_⟩
            rw [HNX.out, HYX.out]
            unfold ageB
            rw [if_pos ⟨hq1, HBN.out⟩, show min (B + 1) 1000000000000 = B + 1 by omega]
            exact HAD.out.bset hn1 HBV.out q hlt (B + 1)
        · have bn : decide (0 ≤ B) = false := by simpa using hBn
          have HBN := Lib.hid hBn
          clear d0 d1 d2 d3 d4 d5 d6 d7 c10 hBn hq0 hbY
          go_wp2_with fail
          go_roundw
          case measure => simp [intOf]; omega
          case rel =>
            refine ⟨q + 1, by omega, by go_num, o3, ?_⟩
            rw [HNX.out, HYX.out]
            unfold ageB
            rw [if_neg (by have := HBN.out; omega), HYB.out]
            exact HA3.out
    · obtain rfl : q = c.nodes := by omega
      have hA := HQ.out
      have c11 : wr.cell? ⟨W, 11, none⟩ = some (.slice (some ⟨gb, 0, none⟩) c.nodes bcap) := by rw [← HBV.out]; exact hA.cell 11
      have hcl := cloneL_any wr (some ⟨gb, 0, none⟩) c.nodes bcap (iter (driftF d) c.nodes x).bound ⟨hA.blen, fun i hi => ⟨_, rfl, by
        have := lt_of_cell (hA.bcell HBV.out i (by rw [hA.blen] at hi; exact hi)); exact this, by
        have := hA.bcell HBV.out i (by rw [hA.blen] at hi; exact hi)
        rw [add_mk, Nat.zero_add, this]
        unfold atL
        rw [List.getD_eq_getElem?_getD, List.getElem?_eq_getElem hi]; rfl⟩⟩ (fun e => by cases e) (by omega)
      have HCL := Lib.hid hcl
      clear hA hcl
      go_wp2_with fail
      (with_reducible refine HCL.out.mono ?_)
      rintro en w5 ⟨v, rfl, hO, hG⟩
      have HO := Lib.hid (And.intro hO hG)
      clear hO hG HCL c11
      go_wp2_with fail
      go_ret
      have hA := HQ.out
      have hF : F = iter (driftF d) c.nodes x := HF.out
      refine ⟨v, o1, r, rfl, ?_, WR.same.refl r, ?_⟩
      · rw [hF]
        exact HA.out.1.trans (hA.kept hn1 HO.out.2)
      · rw [hF]
        exact RV.of_own HO.out.1 (fun j hj => hA.z j hj)
end
end Go.Proofs.YtnpihllannobgaaGreatDoor
