/- A slot may be walked. What a slot leaves. Four nodes: what each keeps of the others. No condition. -/
import Derived.Test.YtnpihllannobgaaGreatDoorG33
namespace Go.Proofs.YtnpihllannobgaaGreatDoor
set_option linter.unusedVariables false
set_option linter.unusedSimpArgs false

theorem encF_len (f : Fr) (h : mayF f = true) : (encF f).length ≤ 1000 := by
  obtain ⟨m1, m2, m3, _⟩ := mayF_of h
  have hi : (encI f.ies).length ≤ 18 * f.ies.length + 1 := by
    have := encI_len m2
    unfold encI
    simp only [List.length_cons]
    omega
  unfold encF bodyF headF crcTail
  simp only [List.length_append, be_len, List.length_cons, List.length_nil]
  omega
section
variable {c : Cfg} {d : Dr} {t : Int} {x : WM} {j : Nat}
theorem backA_len {i : Nat} {f : Fr} {now ms : Int} {s : NSt} : ((backA i f now ms s).getD []).length ≤ 1000 := by
  unfold backA
  split
  · split
    · rename_i h; exact encF_len _ h
    · simp
  · simp
theorem ansN_len {i : Nat} {s : NSt} {X : Int × Fr} {now ms : Int} {f : Fr} : ((ansN i c s X now ms (backA i f now ms)).getD []).length ≤ 1000 := by
  unfold ansN
  split
  · split
    · exact backA_len
    · split
      · simp
      · exact backA_len
  · simp
theorem vW_len (i : Nat) : ((vW c d t x i).getD []).length ≤ 1000 := by
  unfold vW
  split
  · unfold vK
    split
    · split
      · exact ansN_len
      · simp
    · simp
  · simp
/-- someone sends, or nobody. -/
def Who (c : Cfg) (d : Dr) (t : Int) (x : WM) : Prop := Mute c d t x ∨ ∃ j, Snds c d t x j
theorem Sim.who (h : Sim c d t x) (ha : ∀ i, i < c.nodes → AOk c.nodes i (absN (x.nd i))) : Who c d t x := by
  have hn0 := h.hc.n0
  have ht := h.t0
  by_cases hs : (x.nd (t % (c.nodes : Int)).toNat).synced = true
  · right
    have h1 : 0 ≤ t % (c.nodes : Int) := Int.emod_nonneg _ (by omega)
    have h2 : t % (c.nodes : Int) < c.nodes := Int.emod_lt_of_pos _ (by omega)
    exact ⟨(t % (c.nodes : Int)).toNat, h.snds ha (by omega) (by omega) hs⟩
  · left
    intro k hk e
    apply hs
    have : (t % (c.nodes : Int)).toNat = k := by omega
    rw [this]; exact e.1
theorem Who.acks (h : Sim c d t x) (ha : ∀ i, i < c.nodes → AOk c.nodes i (absN (x.nd i))) (hw : Who c d t x) {q : Nat} (hq : q < c.nodes) (he : (vA c d t x q).2.1.isEmpty = false) :
    AckOk c q (noEv (vH c d t x q)) ((vW c d t x q).getD []) t := by
  have ht := h.t0
  have hl := vW_len (c := c) (d := d) (t := t) (x := x) q
  rcases hw with hm | ⟨j, k⟩
  · unfold vA at he; rw [hm.oP hq] at he; cases he
  · have hqj : q = j := by
      refine Classical.byContradiction (fun hne => ?_)
      unfold vA at he; rw [k.other q hq hne] at he; cases he
    subst hqj
    rw [k.oHj]
    refine ⟨rfl, by omega, ?_⟩
    have hA := h.sA ha hq
    have hb := (h.sS hq).base
    rcases k.kd with e | e
    · left; right; left
      show ((nxF c d t x q).kind != 3) = false
      rw [e.1]; rfl
    · right
      refine ⟨?_, ?_, ?_, ?_, ?_⟩
      · show (nxF c d t x q).kind ≠ 1
        rw [e.1]; decide
      · show -1000000000000000 ≤ (vS d x q).base ∧ (vS d x q).base ≤ 1000000000000000
        omega
      · show (vS d x q).p ≠ none → (vS d x q).k ≠ none
        intro _
        unfold AOk at hA
        rw [if_neg e.2.2.1, if_pos (show (absN (vS d x q)).syn = true from k.syn)] at hA
        obtain ⟨⟨R, L, y, _, e3, _⟩, _⟩ := hA
        have e3 : (vS d x q).k = some y := e3
        rw [e3]; simp
      · show 0 ≤ (nxF c d t x q).dst ∧ (nxF c d t x q).dst < c.nodes
        rw [e.2.1]; exact ⟨e.2.2.2.1, e.2.2.2.2.1⟩
      · show (nxF c d t x q).dst ≠ q
        rw [e.2.1]; exact e.2.2.2.2.2.1
theorem ends_ok {i : Nat} {s : NSt} (hev : s.ev = []) (ha : AOk c.nodes i (endA c.loss i (absN s) t)) (hn : c.nodes ≤ 16) : EndOk c i s t := by
  refine ⟨hev, ?_⟩
  by_cases h0 : i = 0 ∨ s.synced = false
  · exact .inl h0
  · right
    simp only [not_or] at h0
    have hs : s.synced = true := by simpa using h0.2
    have hne : ¬ (i = 0 ∨ (absN s).syn = false) := by
      intro e
      rcases e with e | e
      · exact h0.1 e
      · have e : s.synced = false := e
        rw [hs] at e; cases e
    unfold endA at ha
    rw [if_neg hne] at ha
    cases hp : s.p with
    | none =>
      have e1 : (absN s).p = none := hp
      rw [e1] at ha
      unfold AOk at ha
      rw [if_neg h0.1] at ha
      simp only at ha
      rw [if_pos (show (absN s).syn = true from hs)] at ha
      obtain ⟨⟨R, L, y, e2, _⟩, _⟩ := ha
      rw [e1] at e2; cases e2
    | some q =>
      obtain ⟨R, L⟩ := q
      have e1 : (absN s).p = some (R, L) := hp
      rw [e1] at ha
      cases hk : s.k with
      | none =>
        have e3 : (absN s).k = none := hk
        rw [e3] at ha
        unfold AOk at ha
        rw [if_neg h0.1] at ha
        simp only at ha
        rw [if_pos (show (absN s).syn = true from hs)] at ha
        obtain ⟨⟨R, L, y, _, e2, _⟩, _⟩ := ha
        rw [e3] at e2; cases e2
      | some y =>
        have e3 : (absN s).k = some y := hk
        rw [e3] at ha
        refine ⟨R, L, y, rfl, rfl, ?_⟩
        unfold AOk at ha
        rw [if_neg h0.1] at ha
        simp only at ha
        rw [if_pos (show (absN s).syn = true from hs)] at ha
        intro e
        have e4 : firstA { absN s with p := some (R, keptL L t c.loss), k := some (tickK y) } = 64 := e
        have h3 : firstA { absN s with p := some (R, keptL L t c.loss), k := some (tickK y) } < (c.nodes : Int) := ha.2.2.1
        rw [e4] at h3; omega
theorem flat_le {l : List Nat} {f : Nat → List Ev} {b : Nat} (h : ∀ i ∈ l, (f i).length ≤ b) : (l.flatMap f).length ≤ l.length * b := by
  induction l with
  | nil => simp
  | cons a l ih =>
    rw [List.flatMap_cons, List.length_append, List.length_cons]
    have h1 := h a (by simp)
    have h2 := ih (fun i hi => h i (by simp [hi]))
    rw [Nat.add_mul]; omega
/-- .. of a slot from good nodes to good nodes. -/
theorem Sim.ok (h : Sim c d t x) (ha : ∀ i, i < c.nodes → AOk c.nodes i (absN (x.nd i))) (hq : ∀ i, i < c.nodes → AOk c.nodes i (endA c.loss i (absN (vQ c d t x i)) t))
    (hb : x.bound.length = c.nodes ∧ ∀ z ∈ x.bound, -1 ≤ z ∧ z ≤ 100000000) (hev : x.ev = []) : SlotOk c d t x := by
  have hn0 := h.hc.n0
  have hn1 := h.hc.n1
  have ht := h.t0
  have hw := h.who ha
  have hbb : ∀ i, -1 ≤ atL x.bound i ∧ atL x.bound i ≤ 100000000 := fun i => by
    unfold atL
    by_cases hi : i < x.bound.length
    · rw [List.getD_eq_getElem?_getD, List.getElem?_eq_getElem hi]
      exact hb.2 _ (List.getElem_mem hi)
    · rw [List.getD_eq_getElem?_getD, List.getElem?_eq_none (by omega)]
      show -1 ≤ (0 : Int) ∧ (0 : Int) ≤ 100000000
      omega
  obtain ⟨s1, s2, s3⟩ := slot1_nd (d := d) h.hn c.nodes (Nat.le_refl _)
  have hyS : ∀ i, i < c.nodes → (slotA d c x).nd i = vS d x i := fun i hi => by
    have := s3 i hi
    rw [if_pos hi] at this
    exact this
  obtain ⟨a1, a2, a3⟩ := at2 (c := c) (d := d) (now := t) h.hn
  have hpe : ∀ j, j < c.nodes → (vP c d t x j).1.ev = [] := fun j hj => by rw [(vP_off j).2.2.2.2]; exact h.sSe hj
  have h3k := slot3_nd (c := c) (d := d) (now := t) (x := x) (known := (slot1W d c.nodes x).bound) (y := slotB c d t x) rfl a1 (by simp [slotB]) a3
    (fun j hj => by show (List.replicate c.nodes none).getD j none = none; simp [List.getD_eq_getElem?_getD, List.getElem?_replicate, hj]) hpe
  obtain ⟨b1, b2, b3, b4, b5⟩ := h3k c.nodes (Nat.le_refl _)
  have h3 : slot3W c d c.nodes t x = iter (hearF c d (slot1W d c.nodes x).bound t) c.nodes (slotB c d t x) := rfl
  rw [← h3] at b1 b2 b3 b4 b5
  have hy4 : ∀ j, j < c.nodes → (slot3W c d c.nodes t x).nd j = noEv (vH c d t x j) ∧ (slot3W c d c.nodes t x).snd j = vA c d t x j ∧ (slot3W c d c.nodes t x).back.getD j none = vK c d t x j := fun j hj => by
    obtain ⟨k1, k2⟩ := b5 j hj
    rw [if_pos hj] at k1 k2
    refine ⟨k1, ?_, k2⟩
    have := (a3 j hj).2
    unfold WM.snd at this ⊢
    rw [b3]; exact this
  have h4k := slot4_nd (c := c) (d := d) (now := t) (x := x) (known := (slot1W d c.nodes x).bound) (y := slot3W c d c.nodes t x) rfl b1 hy4
  obtain ⟨c1, c2, c3, c4, c5⟩ := h4k c.nodes (Nat.le_refl _)
  have h4 : slot4W c d c.nodes t x = iter (ackF c d (slot1W d c.nodes x).bound t) c.nodes (slot3W c d c.nodes t x) := rfl
  rw [← h4] at c1 c2 c3 c4 c5
  have hy5 : ∀ j, j < c.nodes → (slot4W c d c.nodes t x).nd j = noEv (vQ c d t x j) := fun j hj => by
    have := c5 j hj
    rw [if_pos hj] at this
    exact this
  have h5k := slot5_nd (c := c) (d := d) (now := t) (x := x) (known := (slot1W d c.nodes x).bound) (y := slot4W c d c.nodes t x) c1 hy5
  -- each node's events
  have hvE : ∀ q, q < c.nodes → (vEv c d t x q).length ≤ 10 := fun q hq => by
    unfold vEv vH
    split
    · split
      · exact (hearN_evp (hpe q hq) _ _ _).2
      · rw [hpe q hq]; simp
    · rw [hpe q hq]; simp
  have hvQ : ∀ q, q < c.nodes → (vQv c d t x q).length ≤ 10 := fun q hq => by
    unfold vQv
    by_cases he : (vA c d t x q).2.1.isEmpty = true
    · rw [if_pos he]; simp
    · rw [if_neg he]
      have := hw.acks h ha hq (by simpa using he)
      unfold vQ
      rw [if_neg he]
      exact (ack_evp this).2
  have hend : ∀ q, q < c.nodes → EndOk c q (noEv (vQ c d t x q)) t := fun q hqn => ends_ok rfl (by rw [abs_noEv]; exact hq q hqn) hn1
  have hvF : ∀ q, q < c.nodes → (vE c d t x q).ev.length ≤ 10 := fun q hq => by unfold vE; exact (end_evp (hend q hq)).2
  have hfl : ∀ (f : Nat → List Ev), (∀ q, q < c.nodes → (f q).length ≤ 10) → ∀ k, k ≤ c.nodes → ((List.range k).flatMap f).length ≤ 160 := fun f hf k hk => by
    have := flat_le (l := List.range k) (f := f) (b := 10) (fun i hi => hf i (by rw [List.mem_range] at hi; omega))
    rw [List.length_range] at this
    omega
  have he2 : (slotB c d t x).ev = [] := by show (slot2W c d c.nodes t x).ev = []; rw [a2, hev]
  refine ⟨fun i hi => ?_, ?_, ?_, fun q hqn => ?_, fun j => ?_, fun q hqn => ?_, fun q hqn => ?_, fun q hqn he => ?_, fun q hqn => ?_, fun q hqn => ?_, fun q hqn => ?_⟩
  · have := h.nb i hi
    exact ⟨by have := this.sum; omega, by have := this.slots; omega, by have := this.lis; omega⟩
  · intro i; have := hbb i; omega
  · have hdb := drift_bnd d x c.nodes (by omega)
    refine ⟨hdb.1.trans hb.1, fun z hz => ?_⟩
    obtain ⟨i, hi, e⟩ := List.getElem_of_mem hz
    have e1 : atL (slot1W d c.nodes x).bound i = z := by unfold atL; rw [List.getD_eq_getElem?_getD, List.getElem?_eq_getElem hi, e]; rfl
    have e2 := hdb.2 i
    have e3 : atL (slot1W d c.nodes x).bound i = atL (iter (driftF d) c.nodes x).bound i := rfl
    rw [← e1, e3, e2]
    have := hbb i
    split
    · unfold ageB; split <;> omega
    · omega
  · have e : (iter (planF c t) q (slotA d c x)).nd q = vS d x q := by
      have := ((slot2_nd (c := c) (now := t) (y := slotA d c x) (n := c.nodes) s1 (by simp [slotA]) q (by omega)).2.2.2 q hqn).1
      rw [if_neg (by omega)] at this
      rw [this, hyS q hqn]
    rw [e]
    have hA := h.sA ha hqn
    have hN := h.sS hqn
    have hpk : ∀ (hs : (vS d x q).synced = true) (h0 : q ≠ 0), (vS d x q).p ≠ none ∧ (vS d x q).k ≠ none := fun hs h0 => by
      unfold AOk at hA
      rw [if_neg h0, if_pos (show (absN (vS d x q)).syn = true from hs)] at hA
      obtain ⟨⟨R, L, y, e2, e3, _⟩, _⟩ := hA
      have e2 : (vS d x q).p = some (R, L) := e2
      have e3 : (vS d x q).k = some y := e3
      rw [e2, e3]; simp
    refine ⟨fun hs h0 => (hpk hs h0).1, fun hf => ?_, by rw [hN.q]; simp, hN.seq, by have := hN.slots; omega, by have := hN.base; omega, by have := hN.sum; omega⟩
    have hp : (vS d x q).p ≠ none := fun e2 => hf (by unfold firstN; rw [e2])
    have h0 : q ≠ 0 := fun e2 => by
      unfold AOk at hA
      rw [if_pos e2] at hA
      exact hp hA.2
    have hs : (vS d x q).synced = true := by
      refine Classical.byContradiction (fun hs => ?_)
      unfold AOk at hA
      rw [if_neg h0, if_neg (show ¬ (absN (vS d x q)).syn = true from hs)] at hA
      exact hp hA
    exact (hpk hs h0).2
  · by_cases hj : j < c.nodes
    · rw [(a3 j hj).2]
      unfold vA OffOk
      rw [(vP_off j).1]
      have := (h.sS hj).off
      dsimp only
      omega
    · have hl : (slot2W c d c.nodes t x).air.length = c.nodes := (slot2_nd (c := c) (now := t) (y := slotA d c x) (n := c.nodes) s1 (by simp [slotA]) c.nodes (Nat.le_refl _)).2.2.1
      unfold WM.snd OffOk
      rw [List.getD_eq_getElem?_getD, List.getElem?_eq_none (by omega)]
      show -1000000000000000000 ≤ (0 : Int) ∧ (0 : Int) ≤ 1000000000000000000
      omega
  · obtain ⟨k1, k2, k3, k4, k5⟩ := h3k q (by omega)
    obtain ⟨z, hz⟩ : ∃ z, z = iter (hearF c d (slot1W d c.nodes x).bound t) q (slotB c d t x) := ⟨_, rfl⟩
    rw [← hz] at k3 k5 ⊢
    have hsn : ∀ j, j < c.nodes → z.snd j = vA c d t x j := fun j hj => by
      have := (a3 j hj).2
      unfold WM.snd at this ⊢
      rw [k3]; exact this
    have hzq : z.nd q = (vP c d t x q).1 := by
      have := (k5 q hqn).1
      rw [if_neg (by omega)] at this
      exact this.trans (a3 q hqn).1
    intro j hj hemp
    have hL : vL c d t x q = [j] := by rw [← hears_eq hsn hqn hzq]; exact hj
    have hjn : j < c.nodes := vL_lt hL
    rw [hzq, hsn j hjn]
    rw [hsn q hqn] at hemp
    have hA := h.sA ha hqn
    have hms : msW c d z q j = vM c d t x q j := by unfold msW vM; rw [hsn q hqn, hsn j hjn]
    have hqm : (vP c d t x q).1 = vS d x q := by
      rcases hw with hm | ⟨j2, k⟩
      · rw [hm.oP hqn]
      · have : q ≠ j2 := fun e => by
          subst e
          unfold vA at hemp; rw [k.pl] at hemp
          rw [encF_ne] at hemp; cases hemp
        rw [k.other q hqn this]
    rw [hms, hqm]
    refine ⟨h.sSe hqn, by have := (h.sS hqn).base; omega, fun hs h0 => ?_, (h.sM hqn hjn).2, ?_, ?_⟩
    · unfold AOk at hA
      rw [if_neg h0, if_pos (show (absN (vS d x q)).syn = true from hs)] at hA
      obtain ⟨⟨R, L, y, e2, e3, _⟩, _⟩ := hA
      have e2 : (vS d x q).p = some (R, L) := e2
      have e3 : (vS d x q).k = some y := e3
      rw [e2, e3]; simp
    · rcases hw with hm | ⟨j2, k⟩
      · rw [show vL c d t x q = [] from h.sL0 (fun k hk => by rw [hm.oP hk])] at hL; cases hL
      · have : vL c d t x q = if hrB c d t x q j2 then [j2] else [] := h.sL hqn k.jn k.ne (fun q hq hqj => by rw [k.other q hq hqj])
        rw [this] at hL
        have e : j2 = j := by
          split at hL
          · simpa using hL
          · cases hL
        subst e
        have hk1 : (nxF c d t x j2).kind ≠ 1 := by rcases k.kd with e | e <;> rw [e.1] <;> decide
        intro e
        have e2 : (decF (vA c d t x j2).2.1) = (0, nxF c d t x j2) := k.dx
        rw [e2] at e
        exact hk1 e.2
    · rcases hw with hm | ⟨j2, k⟩
      · unfold vA; rw [hm.oP hjn]; simp
      · by_cases e : j = j2
        · subst e
          unfold vA; rw [k.pl]
          have := encF_len _ k.may
          show (encF (nxF c d t x j)).length ≤ 100000
          omega
        · unfold vA; rw [k.other j hjn e]; simp
  · obtain ⟨k1, k2, k3, k4, k5⟩ := h3k q hqn
    rw [k4, he2, List.nil_append]
    have := hfl _ hvE q hqn
    omega
  · have e2 := (hy4 q hqn).2.1
    rw [e2] at he ⊢
    have hA := hw.acks h ha hqn he
    obtain ⟨k1, k2, k3, k4, k5⟩ := h4k q (by omega)
    obtain ⟨z, hz⟩ : ∃ z, z = iter (ackF c d (slot1W d c.nodes x).bound t) q (slot3W c d c.nodes t x) := ⟨_, rfl⟩
    rw [← hz] at k2 k3 k5 ⊢
    have hzq : z.nd q = noEv (vH c d t x q) := by
      have := k5 q hqn
      rw [if_neg (by omega)] at this
      exact this.trans (hy4 q hqn).1
    have hzs : z.snd q = vA c d t x q := by unfold WM.snd at e2 ⊢; rw [k2]; exact e2
    have hans : answerW c d z q = vW c d t x q := ans_eq rfl hqn hzs (fun j hj => by rw [k3]; exact (hy4 j hj).2.2)
    rw [hzq, hans]
    refine ⟨?_, hA⟩
    rcases hw with hm | ⟨j2, k⟩
    · unfold vA; rw [hm.oP hqn]; simp
    · by_cases e : q = j2
      · subst e
        unfold vA; rw [k.pl]
        have := encF_len _ k.may
        show (encF (nxF c d t x q)).length ≤ 100000
        omega
      · unfold vA; rw [k.other q hqn e]; simp
  · obtain ⟨k1, k2, k3, k4, k5⟩ := h4k q hqn
    rw [k4, b4, he2, List.nil_append, List.length_append]
    have := hfl _ hvE c.nodes (Nat.le_refl _)
    have := hfl _ hvQ q hqn
    omega
  · obtain ⟨k1, k2, k3, k4, k5⟩ := h5k q (by omega)
    have := k5 q hqn
    rw [if_neg (by omega), hy5 q hqn] at this
    rw [this]
    exact hend q hqn
  · obtain ⟨k1, k2, k3, k4, k5⟩ := h5k q hqn
    rw [k4, c4, b4, he2, List.nil_append, List.length_append, List.length_append]
    have := hfl _ hvE c.nodes (Nat.le_refl _)
    have := hfl _ hvQ c.nodes (Nat.le_refl _)
    have := hfl _ hvF q hqn
    omega
end
end Go.Proofs.YtnpihllannobgaaGreatDoor
namespace Go.Proofs.YtnpihllannobgaaGreatDoor
set_option linter.unusedVariables false
set_option linter.unusedSimpArgs false

/-- bounds of n nodes, at most K. -/
def Bn (n : Nat) (K : Int) (b : List Int) : Prop := b.length = n ∧ ∀ z ∈ b, -1 ≤ z ∧ z ≤ K
theorem Bn.at {n : Nat} {K : Int} {b : List Int} (h : Bn n K b) (hK : 0 ≤ K) (i : Nat) : -1 ≤ atL b i ∧ atL b i ≤ K := by
  unfold atL
  by_cases hi : i < b.length
  · rw [List.getD_eq_getElem?_getD, List.getElem?_eq_getElem hi]
    exact h.2 _ (List.getElem_mem hi)
  · rw [List.getD_eq_getElem?_getD, List.getElem?_eq_none (by omega)]
    show -1 ≤ (0 : Int) ∧ (0 : Int) ≤ K
    omega
theorem Bn.set {n : Nat} {K : Int} {b : List Int} (h : Bn n K b) (i : Nat) (z : Int) (hz : -1 ≤ z ∧ z ≤ K) : Bn n K (b.set i z) := by
  refine ⟨by rw [List.length_set]; exact h.1, fun y hy => ?_⟩
  rcases List.mem_or_eq_of_mem_set hy with hy | hy
  · exact h.2 y hy
  · rw [hy]; exact hz
theorem Bn.more {n : Nat} {K K' : Int} {b : List Int} (h : Bn n K b) (hK : K ≤ K') : Bn n K' b := ⟨h.1, fun z hz => by have := h.2 z hz; omega⟩
theorem Bn.tell {n : Nat} {K k0 err : Int} {known : List Int} (hk : ∀ i, -1 ≤ atL known i ∧ atL known i ≤ k0) (he : 0 ≤ err) (hK : k0 + err ≤ K) (h0 : 0 ≤ K) (l : List Ev) : ∀ {b : List Int}, Bn n K b → Bn n K (l.foldl (tellF err known) b) := by
  induction l with
  | nil => intro b h; exact h
  | cons e l ih =>
    intro b h
    rw [List.foldl_cons]
    apply ih
    unfold tellF
    split
    · apply h.set
      have := hk e.src.toNat
      split <;> omega
    · split
      · apply h.set; omega
      · exact h
theorem iter_inv {f : Nat → WM → WM} {P : WM → Prop} (hf : ∀ k z, P z → P (f k z)) : ∀ k z, P z → P (iter f k z) := by
  intro k
  induction k with
  | zero => intro z h; exact h
  | succ k ih => intro z h; exact hf k _ (ih z h)
theorem slot_bnd (c : Cfg) (d : Dr) (t : Int) (x : WM) (K : Int) (hK : 0 ≤ K ∧ K ≤ 100000000) (he : 0 ≤ c.err ∧ c.err ≤ 1000) (h : Bn c.nodes K x.bound) : Bn c.nodes (K + 1 + c.err) (slot5W c d c.nodes t x).bound := by
  have hdb := drift_bnd d x c.nodes (by rw [h.1]; exact Nat.le_refl _)
  have h1 : Bn c.nodes (K + 1) (slot1W d c.nodes x).bound := by
    refine ⟨hdb.1.trans h.1, fun z hz => ?_⟩
    obtain ⟨i, hi, e⟩ := List.getElem_of_mem hz
    have e1 : atL (slot1W d c.nodes x).bound i = z := by unfold atL; rw [List.getD_eq_getElem?_getD, List.getElem?_eq_getElem hi, e]; rfl
    have e2 := hdb.2 i
    have e3 : atL (slot1W d c.nodes x).bound i = atL (iter (driftF d) c.nodes x).bound i := rfl
    rw [← e1, e3, e2]
    have := h.at hK.1 i
    split
    · unfold ageB; split <;> omega
    · omega
  have hk : ∀ i, -1 ≤ atL (slot1W d c.nodes x).bound i ∧ atL (slot1W d c.nodes x).bound i ≤ K + 1 := h1.at (by omega)
  have tl : ∀ (l : List Ev) {b : List Int}, Bn c.nodes (K + 1 + c.err) b → Bn c.nodes (K + 1 + c.err) (l.foldl (tellF c.err (slot1W d c.nodes x).bound) b) := fun l => Bn.tell hk he.1 (Int.le_refl _) (by omega) l
  have h2 : Bn c.nodes (K + 1 + c.err) (slot2W c d c.nodes t x).bound :=
    iter_inv (f := planF c t) (P := fun z => Bn c.nodes (K + 1 + c.err) z.bound) (fun k z hz => hz) c.nodes _ (h1.more (by omega))
  have h3 : Bn c.nodes (K + 1 + c.err) (slot3W c d c.nodes t x).bound :=
    iter_inv (P := fun z => Bn c.nodes (K + 1 + c.err) z.bound) (fun k z hz => by
      unfold hearF
      split
      · split
        · unfold hear1W WM.tells
          exact tl _ hz
        · exact hz
      · exact hz) c.nodes _ h2
  have h4 : Bn c.nodes (K + 1 + c.err) (slot4W c d c.nodes t x).bound :=
    iter_inv (P := fun z => Bn c.nodes (K + 1 + c.err) z.bound) (fun k z hz => by
      unfold ackF
      split
      · exact hz
      · unfold WM.tells
        exact tl _ hz) c.nodes _ h3
  exact iter_inv (P := fun z => Bn c.nodes (K + 1 + c.err) z.bound) (fun k z hz => by
      unfold endF WM.tells
      exact tl _ hz) c.nodes _ h4
/- no node is lost -/
def NoLost (l : List Ev) : Prop := ∀ e ∈ l, e.kind ≠ 3
theorem NoLost.nil : NoLost [] := fun e he => by cases he
theorem NoLost.snoc {l : List Ev} {e : Ev} (h : NoLost l) (he : e.kind ≠ 3) : NoLost (l ++ [e]) := fun y hy => by
  rcases List.mem_append.1 hy with hy | hy
  · exact h y hy
  · simp at hy; subst hy; exact he
theorem NoLost.follows {i : Nat} {s : NSt} (h : NoLost s.ev) (was : Int) : NoLost (followsN i s was).ev := by
  unfold followsN
  split
  · exact h
  · exact h.snoc (by show (6 : Int) ≠ 3; decide)
theorem NoLost.hears {i : Nat} {s : NSt} (h : NoLost s.ev) (src rank now ticks : Int) : NoLost (hearsN i s src rank now ticks).ev := by
  unfold hearsN
  apply NoLost.follows
  unfold hears1N
  split
  · exact h.snoc (by show (7 : Int) ≠ 3; decide)
  · exact h
theorem NoLost.hear {i : Nat} {c : Cfg} {s : NSt} (h : NoLost s.ev) (X : Int × Fr) (now ms : Int) : NoLost (hearN i c s X now ms id).ev := by
  unfold hearN
  split
  · split
    · unfold hear2N
      have h1 : NoLost (evN s ⟨1, i, X.2.src, 0, pk0⟩).ev := h.snoc (by show (1 : Int) ≠ 3; decide)
      split
      · exact h1
      · simp only [id, ite_self]
        exact h1.hears _ _ _ _
    · unfold adoptN
      split
      · have a1 : NoLost (evN (adopt1N s X.2.src (rankF X.2 now).1 now) ⟨1, i, X.2.src, 0, pk0⟩).ev := NoLost.snoc (l := s.ev) h (by show (1 : Int) ≠ 3; decide)
        have a2 : NoLost (movesN i (evN (adopt1N s X.2.src (rankF X.2 now).1 now) ⟨1, i, X.2.src, 0, pk0⟩) X.2.src ms).ev := NoLost.snoc a1 (by show (7 : Int) ≠ 3; decide)
        exact (a2.snoc (e := ⟨2, i, X.2.src, 0, pk0⟩) (by show (2 : Int) ≠ 3; decide)).snoc (e := ⟨6, i, X.2.src, 0, pk0⟩) (by show (6 : Int) ≠ 3; decide)
      · exact h
  · exact h
theorem NoLost.ack {i : Nat} {s : NSt} (h : NoLost s.ev) (L : List Int) (now : Int) : NoLost (ackN i s L now).ev := by
  unfold ackN
  split
  · split
    · split
      · exact NoLost.hears (s := opnN s false) h _ _ _ _
      · exact h
    · exact h
  · exact h
theorem NoLost.ends {c : Cfg} {i : Nat} {s : NSt} (h : NoLost s.ev) (now : Int) : NoLost (endS c i s now).ev := by
  unfold endS
  split
  · exact h
  · split
    · unfold endN
      apply NoLost.follows
      exact h
    · exact h
section
variable {c : Cfg} {d : Dr} {t : Int} {x : WM}
theorem slot_lost (hn : x.nodes.length = c.nodes) (hev : ∀ j, j < c.nodes → (x.nd j).ev = []) (hx : x.ev = []) : NoLost (slot5W c d c.nodes t x).ev := by
  obtain ⟨_, e, _⟩ := slot_nd (c := c) (d := d) (now := t) rfl hn hev
  have hp : ∀ i, i < c.nodes → NoLost (vP c d t x i).1.ev := fun i hi => by
    rw [(vP_off i).2.2.2.2]
    have : (vS d x i).ev = [] := hev i hi
    rw [this]; exact NoLost.nil
  have hH : ∀ i, i < c.nodes → NoLost (vH c d t x i).ev := fun i hi => by
    unfold vH
    split
    · split
      · exact (hp i hi).hear _ _ _
      · exact hp i hi
    · exact hp i hi
  rw [e, hx, List.nil_append]
  intro y hy
  rcases List.mem_append.1 hy with hy | hy
  · rcases List.mem_append.1 hy with hy | hy
    · obtain ⟨i, hi, hy⟩ := List.mem_flatMap.1 hy
      rw [List.mem_range] at hi
      exact hH i hi y hy
    · obtain ⟨i, hi, hy⟩ := List.mem_flatMap.1 hy
      rw [List.mem_range] at hi
      unfold vQv at hy
      split at hy
      · cases hy
      · rename_i h1
        unfold vQ at hy
        rw [if_neg h1] at hy
        exact NoLost.ack (s := noEv _) NoLost.nil _ _ y hy
  · obtain ⟨i, hi, hy⟩ := List.mem_flatMap.1 hy
    unfold vE at hy
    exact NoLost.ends (s := noEv _) NoLost.nil _ y hy
/-- a slot, from good nodes on. -/
structure Good (c : Cfg) (t : Int) (K : Int) (x : WM) : Prop where
  hn : x.nodes.length = c.nodes
  nb : ∀ i, i < c.nodes → Nb t t (x.nd i)
  nev : ∀ i, i < c.nodes → (x.nd i).ev = []
  a : ∀ i, i < c.nodes → AOk c.nodes i (absN (x.nd i))
  bnd : Bn c.nodes K x.bound
  ev : x.ev = []
theorem Good.sim {K : Int} (g : Good c t K x) (hc : CfgOk c) (ht : 0 ≤ t ∧ t ≤ 1000) (he : ∀ i, atL d.err i = 0) (hg : 2 * (t + 1) ≤ c.guard) : Sim c d t x := ⟨hc, g.hn, ht, g.nb, g.nev, he, hg⟩
theorem Good.next {K : Int} (g : Good c t K x) (h : Sim c d t x) (hK : 0 ≤ K ∧ K ≤ 100000000) (hq : ∀ i, i < c.nodes → AOk c.nodes i (endA c.loss i (absN (vQ c d t x i)) t)) (hnb : ∀ i, i < c.nodes → Nb (t + 1) (t + 1) (vQ c d t x i)) :
    Good c (t + 1) (K + 1 + c.err) (noEvW (slot5W c d c.nodes t x)) ∧ SlotOk c d t x ∧ NoLost (slot5W c d c.nodes t x).ev ∧
      ∀ i, i < c.nodes → absN ((noEvW (slot5W c d c.nodes t x)).nd i) = endA c.loss i (absN (vQ c d t x i)) t := by
  obtain ⟨s1, s2, s3⟩ := slot_nd (c := c) (d := d) (now := t) rfl g.hn g.nev
  have hnd : ∀ i, i < c.nodes → (noEvW (slot5W c d c.nodes t x)).nd i = noEv (vE c d t x i) := s3
  have habs : ∀ i, i < c.nodes → absN ((noEvW (slot5W c d c.nodes t x)).nd i) = endA c.loss i (absN (vQ c d t x i)) t := fun i hi => by
    rw [hnd i hi, abs_noEv]
    unfold vE
    rw [abs_end, abs_noEv]
  refine ⟨⟨s1, fun i hi => ?_, fun i hi => ?_, fun i hi => ?_, slot_bnd c d t x K hK h.hc.e g.bnd, rfl⟩, h.ok g.a hq ⟨g.bnd.1, fun z hz => by have := g.bnd.2 z hz; omega⟩ g.ev, slot_lost g.hn g.nev g.ev, habs⟩
  · rw [hnd i hi]
    unfold vE
    exact (((hnb i hi).noEv).ends c i t).noEv
  · rw [hnd i hi]; rfl
  · rw [habs i hi]; exact hq i hi
end
end Go.Proofs.YtnpihllannobgaaGreatDoor
namespace Go.Proofs.YtnpihllannobgaaGreatDoor
set_option linter.unusedVariables false
set_option linter.unusedSimpArgs false

theorem hl_a (t : Int) : hearL 1 [] 0 0 t = (1, [⟨0, 0, t⟩]) := by rfl
theorem hl_0 (h t : Int) : hearL 1 [⟨0, 0, h⟩] 0 0 t = (1, [⟨0, 0, t⟩]) := by rfl
theorem hl_3 (h t : Int) : hearL 1 [⟨0, 0, h⟩] 3 2 t = (1, [⟨0, 0, h⟩]) := by rfl
theorem hl_v (t : Int) : hearL 2 [] 2 1 t = (2, [⟨1, 2, t⟩]) := by rfl
theorem hl_v2 (h t : Int) : hearL 2 [⟨1, 2, h⟩] 2 1 t = (2, [⟨1, 2, t⟩]) := by rfl
theorem hl_v1 (h t : Int) : hearL 2 [⟨1, 2, h⟩] 1 1 t = (2, [⟨1, 1, t⟩, ⟨1, 2, h⟩]) := by rfl
theorem hl_w1 (h1 h2 t : Int) : hearL 2 [⟨1, 1, h1⟩, ⟨1, 2, h2⟩] 1 1 t = (2, [⟨1, 1, t⟩, ⟨1, 2, h2⟩]) := by rfl
theorem hl_w2 (h1 h2 t : Int) : hearL 2 [⟨1, 1, h1⟩, ⟨1, 2, h2⟩] 2 1 t = (2, [⟨1, 1, h1⟩, ⟨1, 2, t⟩]) := by rfl

def Ms (t : Int) (a : AN) : Prop := a.syn = true ∧ ∃ h y, a.p = some (1, [⟨0, 0, h⟩]) ∧ a.k = some y ∧ 0 ≤ y ∧ y ≤ t - h ∧ h < t ∧ t - 1 - (t + 3) % 4 ≤ h
def Vs (t : Int) (a : AN) : Prop := a.syn = true ∧ ∃ h y, a.p = some (2, [⟨1, 2, h⟩]) ∧ a.k = some y ∧ 0 ≤ y ∧ h < t ∧ t - 1 - (t + 1) % 4 ≤ h
def Ws (loss t h1 y : Int) (a : AN) : Prop := a.syn = true ∧ ∃ h2, a.p = some (2, [⟨1, 1, h1⟩, ⟨1, 2, h2⟩]) ∧ a.k = some y ∧ 0 ≤ y ∧ h1 < t ∧ t ≤ h1 + loss ∧ h2 < t ∧ t - 1 - (t + 1) % 4 ≤ h2
def Us (n : Int) (a : AN) : Prop := a.syn = false ∧ a.p = none ∧ a.lis = n ∧ a.slt = n
def Zs (a : AN) : Prop := a.syn = true ∧ a.p = none
theorem tickK_le (y : Int) : tickK y ≤ y + 1 := by unfold tickK; omega
theorem tickK_ge {y : Int} (h : 0 ≤ y) : 0 ≤ tickK y := by unfold tickK; omega
theorem endA_of {loss t : Int} {i : Nat} {a : AN} (hi : i ≠ 0) (hs : a.syn = true) {R y : Int} {L : List Pa} (hp : a.p = some (R, L)) (hk : a.k = some y) : endA loss i a t = { a with p := some (R, keptL L t loss), k := some (tickK y) } := by
  unfold endA
  rw [if_neg (by rw [hs]; simp [hi]), hp, hk]
theorem hears_hit {a : AN} {src rank now : Int} {q : Option (Int × List Pa)} (hq : heP a.p src rank now = q) (hf : firstA { a with p := q } = src) : hearsA a src rank now = { a with p := q, k := some 0 } := by
  unfold hearsA mvA
  rw [hq, if_pos hf]
theorem hears_miss {a : AN} {src rank now : Int} {q : Option (Int × List Pa)} (hq : heP a.p src rank now = q) (hf : firstA { a with p := q } ≠ src) : hearsA a src rank now = { a with p := q } := by
  unfold hearsA mvA
  rw [hq, if_neg hf]
section
variable {loss t : Int} {a : AN}
theorem kept1 {r n h : Int} (hh : t - loss < h) : keptL [⟨r, n, h⟩] t loss = [⟨r, n, h⟩] := by
  unfold keptL
  have : decide (h ≤ t - loss) = false := by simp; omega
  simp [this]
theorem kept2 {r n h r2 n2 h2 : Int} (hh : t - loss < h) (hh2 : t - loss < h2) : keptL [⟨r, n, h⟩, ⟨r2, n2, h2⟩] t loss = [⟨r, n, h⟩, ⟨r2, n2, h2⟩] := by
  unfold keptL
  have e1 : decide (h ≤ t - loss) = false := by simp; omega
  have e2 : decide (h2 ≤ t - loss) = false := by simp; omega
  simp [e1, e2]
theorem keptD {r n h r2 n2 h2 : Int} (hh : h ≤ t - loss) (hh2 : t - loss < h2) : keptL [⟨r, n, h⟩, ⟨r2, n2, h2⟩] t loss = [⟨r2, n2, h2⟩] := by
  unfold keptL
  have e1 : decide (h ≤ t - loss) = true := by simpa using hh
  have e2 : decide (h2 ≤ t - loss) = false := by simp; omega
  simp [e1, e2]
/- node 0 -/
theorem Zs.next (h : Zs a) : Zs (endA loss 0 (tickA a) t) := by
  unfold endA; rw [if_pos (.inl rfl)]; exact h
theorem Zs.ok {n : Nat} (h : Zs a) : AOk n 0 a := by unfold AOk; rw [if_pos rfl]; exact h
/- out of time -/
theorem Us.next {n : Int} (h : Us n a) (i : Nat) : Us (n + 1) (endA loss i (tickA a) t) := by
  obtain ⟨h1, h2, h3, h4⟩ := h
  have e : endA loss i (tickA a) t = tickA a := by unfold endA; rw [if_pos (.inr h1)]
  rw [e]
  refine ⟨h1, h2, ?_, ?_⟩
  · show (if a.syn then a.lis else a.lis + 1) = n + 1
    rw [h1, h3]; rfl
  · show a.slt + 1 = n + 1
    rw [h4]
theorem Us.ok {n : Int} {m i : Nat} (h : Us n a) (hi : i ≠ 0) : AOk m i a := by
  unfold AOk; rw [if_neg hi, if_neg (by rw [h.1]; simp)]; exact h.2.1
/- one hop away -/
theorem Ms.ok {i : Nat} (h : Ms t a) (hi : i ≠ 0) : AOk 4 i a := by
  obtain ⟨h1, q, y, h2, h3, h4, h5, h6, h7⟩ := h
  unfold AOk
  rw [if_neg hi, if_pos h1]
  have e : firstA a = 0 := by unfold firstA; rw [h2]
  refine ⟨⟨1, _, y, h2, h3, by decide, by decide⟩, ?_, ?_, ?_⟩ <;> rw [e] <;> omega
theorem Ms.rank {i : Nat} (h : Ms t a) (hi : i ≠ 0) : rankA i (tickA a) = 1 := by
  obtain ⟨h1, q, y, h2, _⟩ := h
  unfold rankA
  have e1 : (tickA a).syn = true := h1
  have e2 : (tickA a).p = some (1, [⟨0, 0, q⟩]) := h2
  rw [if_pos e1, if_neg hi, e2]
theorem Ms.next (h : Ms t a) (hl : 12 ≤ loss) {i : Nat} (hi : i ≠ 0) (h4 : t % 4 ≠ 0) : Ms (t + 1) (endA loss i (tickA a) t) := by
  obtain ⟨h1, q, y, h2, h3, h5, h6, h7, h8⟩ := h
  rw [endA_of (a := tickA a) hi h1 h2 h3, kept1 (by omega)]
  have := tickK_le y
  exact ⟨h1, q, tickK y, rfl, rfl, tickK_ge h5, by omega, by omega, by omega⟩
theorem Ms.next0 (h : Ms t a) (hl : 12 ≤ loss) {i : Nat} (hi : i ≠ 0) : Ms (t + 1) (endA loss i (hearsA (tickA a) 0 0 t) t) := by
  obtain ⟨h1, q, y, h2, h3, h5, h6, h7, h8⟩ := h
  have e : hearsA (tickA a) 0 0 t = { tickA a with p := some (1, [⟨0, 0, t⟩]), k := some 0 } := hears_hit (by show heP a.p 0 0 t = _; rw [h2]; exact congrArg some (hl_0 q t)) rfl
  rw [e, endA_of (a := { tickA a with p := some (1, [⟨0, 0, t⟩]), k := some 0 }) hi h1 rfl rfl, kept1 (by omega)]
  exact ⟨h1, t, tickK 0, rfl, rfl, by decide, by show min (0 + 1) 1000000 ≤ t + 1 - t; omega, by omega, by omega⟩
theorem Ms.same3 (h : Ms t a) : hearsA (tickA a) 3 2 t = tickA a := by
  obtain ⟨h1, q, y, h2, h3, h5, h6, h7, h8⟩ := h
  have e : heP (tickA a).p 3 2 t = (tickA a).p := by show heP a.p 3 2 t = a.p; rw [h2]; exact congrArg some (hl_3 q t)
  have e2 : firstA { tickA a with p := (tickA a).p } ≠ 3 := by
    show firstA (tickA a) ≠ 3
    have : firstA (tickA a) = 0 := by unfold firstA; show (match a.p with | some (_, p :: _) => p.node | _ => 64) = 0; rw [h2]
    rw [this]; decide
  rw [hears_miss e e2]
/- who takes the time of node 0 -/
theorem Us.adopt0 {i : Nat} {n : Int} (h : Us n a) (hl : 12 ≤ loss) (hi : i ≠ 0) (hn : loss ≤ n) : Ms (t + 1) (endA loss i (hearA i loss (tickA a) 0 3 0 t) t) := by
  obtain ⟨h1, h2, h3, h4⟩ := h
  have e : hearA i loss (tickA a) 0 3 0 t = ⟨true, some (1, [⟨0, 0, t⟩]), some 0, (tickA a).lis, (tickA a).slt⟩ := by
    unfold hearA
    rw [if_neg (by show ¬ a.syn = true; rw [h1]; simp), if_pos ⟨rfl, by decide, by show loss < (if a.syn then a.lis else a.lis + 1); rw [h1, h3]; simp only [Bool.false_eq_true, if_false]; omega⟩]
    rfl
  rw [e, endA_of hi rfl rfl rfl, kept1 (by omega)]
  exact ⟨rfl, t, tickK 0, rfl, rfl, by decide, by show min (0 + 1) 1000000 ≤ t + 1 - t; omega, by omega, by omega⟩
/- two hops away -/
theorem Us.adopt2 {n : Int} (h : Us n a) (hl : 12 ≤ loss) (hn : loss ≤ n) : Vs (t + 1) (endA loss 3 (hearA 3 loss (tickA a) 2 3 1 t) t) := by
  obtain ⟨h1, h2, h3, h4⟩ := h
  have e : hearA 3 loss (tickA a) 2 3 1 t = ⟨true, some (2, [⟨1, 2, t⟩]), some 0, (tickA a).lis, (tickA a).slt⟩ := by
    unfold hearA
    rw [if_neg (by show ¬ a.syn = true; rw [h1]; simp), if_pos ⟨rfl, by decide, by show loss < (if a.syn then a.lis else a.lis + 1); rw [h1, h3]; simp only [Bool.false_eq_true, if_false]; omega⟩]
    rfl
  rw [e, endA_of (by decide) rfl rfl rfl, kept1 (by omega)]
  exact ⟨rfl, t, tickK 0, rfl, rfl, by decide, by omega, by omega⟩
theorem Vs.ok (h : Vs t a) : AOk 4 3 a := by
  obtain ⟨h1, q, y, h2, h3, h4, h5, h6⟩ := h
  unfold AOk
  rw [if_neg (by decide), if_pos h1]
  have e : firstA a = 2 := by unfold firstA; rw [h2]
  refine ⟨⟨2, _, y, h2, h3, by decide, by decide⟩, ?_, ?_, ?_⟩ <;> rw [e] <;> decide
theorem Vs.rank (h : Vs t a) : rankA 3 (tickA a) = 2 := by
  obtain ⟨h1, q, y, h2, _⟩ := h
  unfold rankA
  have e1 : (tickA a).syn = true := h1
  have e2 : (tickA a).p = some (2, [⟨1, 2, q⟩]) := h2
  rw [if_pos e1, if_neg (by decide), e2]
theorem Vs.next (h : Vs t a) (hl : 12 ≤ loss) (h4 : t % 4 ≠ 2) : Vs (t + 1) (endA loss 3 (tickA a) t) := by
  obtain ⟨h1, q, y, h2, h3, h5, h6, h7⟩ := h
  rw [endA_of (a := tickA a) (by decide) h1 h2 h3, kept1 (by omega)]
  exact ⟨h1, q, tickK y, rfl, rfl, tickK_ge h5, by omega, by omega⟩
theorem Vs.next2 (h : Vs t a) (hl : 12 ≤ loss) : Vs (t + 1) (endA loss 3 (hearsA (tickA a) 2 1 t) t) := by
  obtain ⟨h1, q, y, h2, h3, h5, h6, h7⟩ := h
  have e : hearsA (tickA a) 2 1 t = { tickA a with p := some (2, [⟨1, 2, t⟩]), k := some 0 } := hears_hit (by show heP a.p 2 1 t = _; rw [h2]; exact congrArg some (hl_v2 q t)) rfl
  rw [e, endA_of (a := { tickA a with p := some (2, [⟨1, 2, t⟩]), k := some 0 }) (by decide) h1 rfl rfl, kept1 (by omega)]
  exact ⟨h1, t, tickK 0, rfl, rfl, by decide, by omega, by omega⟩
theorem Vs.next1 (h : Vs t a) (hl : 12 ≤ loss) (h4 : t % 4 = 1) : ∃ y, Ws loss (t + 1) t y (endA loss 3 (hearsA (tickA a) 1 1 t) t) ∧ y ≤ 1 := by
  obtain ⟨h1, q, y, h2, h3, h5, h6, h7⟩ := h
  have e : hearsA (tickA a) 1 1 t = { tickA a with p := some (2, [⟨1, 1, t⟩, ⟨1, 2, q⟩]), k := some 0 } := hears_hit (by show heP a.p 1 1 t = _; rw [h2]; exact congrArg some (hl_v1 q t)) rfl
  rw [e, endA_of (a := { tickA a with p := some (2, [⟨1, 1, t⟩, ⟨1, 2, q⟩]), k := some 0 }) (by decide) h1 rfl rfl, kept2 (by omega) (by omega)]
  exact ⟨tickK 0, ⟨h1, q, rfl, rfl, by decide, by omega, by omega, by omega, by omega⟩, by decide⟩
/- .. with two that it may follow -/
theorem Ws.ok {h1 y : Int} (h : Ws loss t h1 y a) : AOk 4 3 a := by
  obtain ⟨h0, q, h2, h3, h4, _⟩ := h
  unfold AOk
  rw [if_neg (by decide), if_pos h0]
  have e : firstA a = 1 := by unfold firstA; rw [h2]
  refine ⟨⟨2, _, y, h2, h3, by decide, by decide⟩, ?_, ?_, ?_⟩ <;> rw [e] <;> decide
theorem Ws.rank {h1 y : Int} (h : Ws loss t h1 y a) : rankA 3 (tickA a) = 2 := by
  obtain ⟨h0, q, h2, _⟩ := h
  unfold rankA
  have e1 : (tickA a).syn = true := h0
  have e2 : (tickA a).p = some (2, [⟨1, 1, h1⟩, ⟨1, 2, q⟩]) := h2
  rw [if_pos e1, if_neg (by decide), e2]
/-- a slot more: as it was, or without the first one. -/
theorem Ws.next {h1 y : Int} (h : Ws loss t h1 y a) (hl : 12 ≤ loss) (h4 : t % 4 ≠ 2) : (t < h1 + loss ∧ Ws loss (t + 1) h1 (tickK y) (endA loss 3 (tickA a) t)) ∨ (t = h1 + loss ∧ Vs (t + 1) (endA loss 3 (tickA a) t)) := by
  obtain ⟨h0, q, h2, h3, h5, h6, h7, h8, h9⟩ := h
  rw [endA_of (a := tickA a) (by decide) h0 h2 h3]
  by_cases hd : t < h1 + loss
  · left
    rw [kept2 (by omega) (by omega)]
    exact ⟨hd, h0, q, rfl, rfl, tickK_ge h5, by omega, by omega, by omega, by omega⟩
  · right
    rw [keptD (by omega) (by omega)]
    exact ⟨by omega, h0, q, tickK y, rfl, rfl, tickK_ge h5, by omega, by omega⟩
theorem Ws.next2 {h1 y : Int} (h : Ws loss t h1 y a) (hl : 12 ≤ loss) : (t < h1 + loss ∧ Ws loss (t + 1) h1 (tickK y) (endA loss 3 (hearsA (tickA a) 2 1 t) t)) ∨ (t = h1 + loss ∧ Vs (t + 1) (endA loss 3 (hearsA (tickA a) 2 1 t) t)) := by
  obtain ⟨h0, q, h2, h3, h5, h6, h7, h8, h9⟩ := h
  have e : hearsA (tickA a) 2 1 t = { tickA a with p := some (2, [⟨1, 1, h1⟩, ⟨1, 2, t⟩]) } := hears_miss (by show heP a.p 2 1 t = _; rw [h2]; exact congrArg some (hl_w2 h1 q t)) (by show (1 : Int) ≠ 2; decide)
  rw [e, endA_of (a := { tickA a with p := some (2, [⟨1, 1, h1⟩, ⟨1, 2, t⟩]) }) (by decide) h0 rfl h3]
  by_cases hd : t < h1 + loss
  · left
    rw [kept2 (by omega) (by omega)]
    exact ⟨hd, h0, t, rfl, rfl, tickK_ge h5, by omega, by omega, by omega, by omega⟩
  · right
    rw [keptD (by omega) (by omega)]
    exact ⟨by omega, h0, t, tickK y, rfl, rfl, tickK_ge h5, by omega, by omega⟩
theorem Ws.next1 {h1 y : Int} (h : Ws loss t h1 y a) (hl : 12 ≤ loss) (h4 : t % 4 = 1) : ∃ y', Ws loss (t + 1) t y' (endA loss 3 (hearsA (tickA a) 1 1 t) t) ∧ y' ≤ 1 := by
  obtain ⟨h0, q, h2, h3, h5, h6, h7, h8, h9⟩ := h
  have e : hearsA (tickA a) 1 1 t = { tickA a with p := some (2, [⟨1, 1, t⟩, ⟨1, 2, q⟩]), k := some 0 } := hears_hit (by show heP a.p 1 1 t = _; rw [h2]; exact congrArg some (hl_w1 h1 q t)) rfl
  rw [e, endA_of (a := { tickA a with p := some (2, [⟨1, 1, t⟩, ⟨1, 2, q⟩]), k := some 0 }) (by decide) h0 rfl rfl, kept2 (by omega) (by omega)]
  exact ⟨tickK 0, ⟨h0, q, rfl, rfl, by decide, by omega, by omega, by omega, by omega⟩, by decide⟩
end
end Go.Proofs.YtnpihllannobgaaGreatDoor
