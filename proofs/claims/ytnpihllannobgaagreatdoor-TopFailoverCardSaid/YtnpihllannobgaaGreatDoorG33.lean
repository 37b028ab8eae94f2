/- What a node's state keeps of itself in a slot. A slot of nodes whose clocks are near each other. What is sent and heard in a slot. A frame that is answered; a slot in which nobody sends. No condition. -/
import Derived.Test.YtnpihllannobgaaGreatDoorG32
import Derived.Test.YtnpihllannobgaaGreatDoorG21
namespace Go.Proofs.YtnpihllannobgaaGreatDoor
set_option linter.unusedVariables false
set_option linter.unusedSimpArgs false

/-- what counts of a node. -/
structure AN where
  syn : Bool
  p : Option (Int × List Pa)
  k : Option Int
  lis : Int
  slt : Int
def absN (s : NSt) : AN := ⟨s.synced, s.p, s.k, s.listened, s.slots⟩
def firstA (a : AN) : Int := match a.p with | some (_, p :: _) => p.node | _ => 64
def rankA (i : Nat) (a : AN) : Int := if a.syn then (if i = 0 then 0 else match a.p with | none => 255 | some x => x.1) else 255
def tickA (a : AN) : AN := { a with slt := a.slt + 1, lis := if a.syn then a.lis else a.lis + 1 }
def mvA (a : AN) (src : Int) : AN := if firstA a = src then { a with k := some 0 } else a
def heP (p : Option (Int × List Pa)) (src rank now : Int) : Option (Int × List Pa) := match p with | none => none | some (R, L) => some (hearL R L src rank now)
def hearsA (a : AN) (src rank now : Int) : AN := mvA { a with p := heP a.p src rank now } src
theorem mvA_syn (a : AN) (src : Int) : (mvA a src).syn = a.syn := by unfold mvA; split <;> rfl
theorem hearsA_syn (a : AN) (src rank now : Int) : (hearsA a src rank now).syn = a.syn := mvA_syn _ _
def hearA (i : Nat) (loss : Int) (a : AN) (src kind rk now : Int) : AN :=
  if a.syn then (if i = 0 then a else hearsA a src rk now)
  else if kind = 3 ∧ rk ≤ 253 ∧ loss < a.lis then ⟨true, some (hearL (rk + 1) [] src rk now), some 0, a.lis, a.slt⟩ else a
def endA (loss : Int) (i : Nat) (a : AN) (now : Int) : AN :=
  if i = 0 ∨ a.syn = false then a else match a.p, a.k with | some (R, L), some x => { a with p := some (R, keptL L now loss), k := some (tickK x) } | _, _ => a
theorem abs_first (s : NSt) : firstN s = firstA (absN s) := rfl
theorem abs_rank (i : Nat) (s : NSt) : rankN i s = rankA i (absN s) := rfl
theorem abs_slot (i : Nat) (p : Int) (s : NSt) : absN (slotN i p s) = tickA (absN s) := rfl
theorem abs_follows (i : Nat) (s : NSt) (was : Int) : absN (followsN i s was) = absN s := by
  unfold followsN; split <;> rfl
theorem abs_hears (i : Nat) (s : NSt) (src rank now ticks : Int) : absN (hearsN i s src rank now ticks) = hearsA (absN s) src rank now := by
  unfold hearsN
  rw [abs_follows]
  unfold hears1N hearsA mvA
  show absN (if firstN (heardN s src rank now) = src then _ else _) = if firstA (absN (heardN s src rank now)) = src then _ else _
  rw [← abs_first]
  split <;> rfl
theorem abs_hear (i : Nat) (c : Cfg) (s : NSt) (f : Fr) (now ms : Int) (hg : goodF i c (0, f) = true) (hr : (rankF f now).2 = true) :
    absN (hearN i c s (0, f) now ms id) = hearA i c.loss (absN s) f.src f.kind (rankF f now).1 now := by
  unfold hearN hearA
  rw [hg, hr]
  simp only [Bool.and_self, if_true]
  by_cases hs : s.synced = true
  · have e : (absN s).syn = true := hs
    rw [if_pos hs, if_pos e]
    unfold hear2N
    by_cases hi : i = 0
    · rw [if_pos hi, if_pos hi]; rfl
    · rw [if_neg hi, if_neg hi]
      simp only [id, ite_self]
      rw [abs_hears]; rfl
  · have e : ¬ (absN s).syn = true := hs
    rw [if_neg hs, if_neg e]
    unfold adoptN
    by_cases h : f.kind = 3 ∧ (rankF f now).1 ≤ 253 ∧ c.loss < s.listened
    · rw [if_pos h]
      exact (if_pos h).symm
    · rw [if_neg h]
      exact (if_neg h).symm
theorem abs_end (c : Cfg) (i : Nat) (s : NSt) (now : Int) : absN (endS c i s now) = endA c.loss i (absN s) now := by
  unfold endS endA
  show absN (if i = 0 ∨ s.synced = false then _ else _) = if i = 0 ∨ s.synced = false then _ else _
  split
  · rfl
  · show absN (match s.p, s.k with | some (R, L), some x => endN i s R L x now c.loss | _, _ => s) = (match s.p, s.k with | some (R, L), some x => _ | _, _ => _)
    cases hp : s.p with
    | none => rfl
    | some q =>
      obtain ⟨R, L⟩ := q
      cases hk : s.k with
      | none => rfl
      | some x =>
        show absN (endN i s R L x now c.loss) = _
        unfold endN
        rw [abs_follows]; rfl
theorem abs_opn (s : NSt) (b : Bool) : absN (opnN s b) = absN s := rfl
theorem abs_noEv (s : NSt) : absN (noEv s) = absN s := rfl
theorem abs_send (s : NSt) (f : Fr) (now : Int) : absN (sendN s f now) = absN s := rfl

/-- what keeps within bounds: T for what grows, u for the slot that was sent in. -/
structure Nb (T u : Int) (s : NSt) : Prop where
  q : s.q = []
  seq : 0 ≤ s.seq ∧ s.seq ≤ 255
  slots : 0 ≤ s.slots ∧ s.slots ≤ T
  lis : 0 ≤ s.listened ∧ s.listened ≤ T
  sum : -(T * 1000000) ≤ s.sum ∧ s.sum ≤ T * 1000000
  base : -(2 * T + 1) ≤ s.base ∧ s.base ≤ 2 * T + 1
  off : -T ≤ offN s ∧ offN s ≤ T
  kd : s.skind ≠ 1
  op : s.sopen = true → s.sasn < u
def nbOf (s : NSt) : List (Int × List Int) × Int × Int × Int × Int × Int × Int × Bool × Int := (s.q, s.seq, s.slots, s.listened, s.sum, s.base, s.skind, s.sopen, s.sasn)
theorem Nb.cong {T u : Int} {s s' : NSt} (h : Nb T u s) (e : nbOf s' = nbOf s) : Nb T u s' := by
  unfold nbOf at e
  simp only [Prod.mk.injEq] at e
  obtain ⟨e1, e2, e3, e4, e5, e6, e7, e8, e9⟩ := e
  obtain ⟨h1, h2, h3, h4, h5, h6, h7, h8, h9⟩ := h
  unfold offN at h7
  exact ⟨e1 ▸ h1, by rw [e2]; exact h2, by rw [e3]; exact h3, by rw [e4]; exact h4, by rw [e5]; exact h5, by rw [e6]; exact h6, by unfold offN; rw [e5, e6]; exact h7, by rw [e7]; exact h8, by rw [e8, e9]; exact h9⟩
theorem Nb.more {T u T' u' : Int} {s : NSt} (h : Nb T u s) (hT : T ≤ T') (hu : u ≤ u') : Nb T' u' s := by
  obtain ⟨h1, h2, h3, h4, h5, h6, h7, h8, h9⟩ := h
  exact ⟨h1, h2, by omega, by omega, by omega, by omega, by omega, h8, fun e => by have := h9 e; omega⟩
theorem Nb.slot {T u : Int} {s : NSt} (h : Nb T u s) (i : Nat) (p : Int) : Nb (T + 1) u (slotN i p s) := by
  obtain ⟨h1, h2, h3, h4, h5, h6, h7, h8, h9⟩ := h
  have hd : -1000000 ≤ cutf (if i = 0 then 0 else p) 100 * 10000 ∧ cutf (if i = 0 then 0 else p) 100 * 10000 ≤ 1000000 := by
    have := cutf_bd (if i = 0 then 0 else p) 100 (by omega)
    omega
  obtain ⟨D, hD⟩ : ∃ D, D = cutf (if i = 0 then 0 else p) 100 * 10000 := ⟨_, rfl⟩
  rw [← hD] at hd
  have es : (slotN i p s).sum = s.sum + D := by rw [hD]; rfl
  have eb : (slotN i p s).base = s.base := rfl
  have el : (slotN i p s).listened = if s.synced then s.listened else s.listened + 1 := rfl
  have eo : offN (slotN i p s) = s.base + downf (s.sum + D) := by unfold offN; rw [es, eb]
  refine ⟨h1, h2, ?_, ?_, by rw [es]; omega, by rw [eb]; omega, ?_, h8, h9⟩
  · show 0 ≤ s.slots + 1 ∧ s.slots + 1 ≤ T + 1; omega
  · rw [el]; split <;> omega
  · rw [eo]
    unfold offN at h7
    unfold downf at h7 ⊢
    omega
/-- moved to where another one is. -/
theorem Nb.move {T u : Int} {s : NSt} (h : Nb T u s) (n z : Int) (hn : n = z - offN s) (hz : -T ≤ z ∧ z ≤ T) (hT : T ≤ 10000) : Nb T u (moveN s n) := by
  obtain ⟨h1, h2, h3, h4, h5, h6, h7, h8, h9⟩ := h
  have e0 : cutf n 1000000 = n := by unfold cutf; omega
  have e1 : (moveN s n).base = s.base + n := by
    show cutf (s.base + cutf n 1000000) 1000000000000 = _
    rw [e0]; unfold cutf; omega
  have e2 : (moveN s n).sum = s.sum := rfl
  refine ⟨h1, h2, h3, h4, h5, ?_, ?_, h8, h9⟩
  · rw [e1, hn]; unfold offN at h7 ⊢; unfold downf at h7 ⊢; omega
  · unfold offN at hn h7 ⊢; rw [e1, e2]; omega
theorem nb_follows (i : Nat) (s : NSt) (was : Int) : nbOf (followsN i s was) = nbOf s := by unfold followsN; split <;> rfl
theorem nb_hears (i : Nat) (s : NSt) (src rank now ticks : Int) : nbOf (hearsN i s src rank now ticks) = nbOf s ∨ nbOf (hearsN i s src rank now ticks) = nbOf (moveN s ticks) := by
  unfold hearsN
  rw [nb_follows]
  unfold hears1N
  split
  · exact .inr rfl
  · exact .inl rfl
theorem Nb.hears {T u : Int} {s : NSt} (h : Nb T u s) (i : Nat) (src rank now ticks z : Int) (hn : ticks = z - offN s) (hz : -T ≤ z ∧ z ≤ T) (hT : T ≤ 10000) : Nb T u (hearsN i s src rank now ticks) := by
  rcases nb_hears i s src rank now ticks with e | e
  · exact h.cong e
  · exact (h.move ticks z hn hz hT).cong e
theorem nb_adopt (i : Nat) (s : NSt) (src rk now ms : Int) : nbOf (adopt2N i s src rk now ms) = nbOf (moveN s ms) := by
  simp only [nbOf, adopt2N, movesN, moveN, evN, kN, clkN, adopt1N, adopt0N, pN, synN]
theorem Nb.hear {T u : Int} {s : NSt} (h : Nb T u s) (i : Nat) (c : Cfg) (x : Int × Fr) (now ms z : Int) (hn : ms = z - offN s) (hz : -T ≤ z ∧ z ≤ T) (hT : T ≤ 10000) : Nb T u (hearN i c s x now ms id) := by
  unfold hearN
  split
  · split
    · unfold hear2N
      split
      · exact h.cong rfl
      · simp only [id, ite_self]
        exact Nb.hears (s := evN s _) (h.cong rfl) i _ _ _ _ z hn hz hT
    · unfold adoptN
      split
      · exact (h.move ms z hn hz hT).cong (nb_adopt _ _ _ _ _ _)
      · exact h
  · exact h
theorem Nb.ends {T u : Int} {s : NSt} (h : Nb T u s) (c : Cfg) (i : Nat) (now : Int) : Nb T u (endS c i s now) := by
  unfold endS
  split
  · exact h
  · split
    · unfold endN; exact h.cong (nb_follows _ _ _)
    · exact h
theorem Nb.send {T u : Int} {s : NSt} (h : Nb T u s) (f : Fr) (now : Int) (hk : f.kind ≠ 1) (hu : u ≤ now + 1) : Nb T (now + 1) (sendN s f now) := by
  obtain ⟨h1, h2, h3, h4, h5, h6, h7, h8, h9⟩ := h
  exact ⟨h1, by show 0 ≤ (s.seq + 1) % 256 ∧ (s.seq + 1) % 256 ≤ 255; omega, h3, h4, h5, h6, h7, hk, fun _ => by show now < now + 1; omega⟩
theorem Nb.noEv {T u : Int} {s : NSt} (h : Nb T u s) : Nb T u (noEv s) := h.cong rfl
theorem Nb.opn {T u : Int} {s : NSt} (h : Nb T u s) : Nb T u (opnN s false) := by
  obtain ⟨h1, h2, h3, h4, h5, h6, h7, h8, h9⟩ := h
  exact ⟨h1, h2, h3, h4, h5, h6, h7, h8, fun e => by cases e⟩
theorem nb_new (i : Nat) : Nb 0 0 (newN i) :=
  ⟨rfl, show (0 : Int) ≤ 0 ∧ (0 : Int) ≤ 255 by decide, show (0 : Int) ≤ 0 ∧ (0 : Int) ≤ 0 by decide, show (0 : Int) ≤ 0 ∧ (0 : Int) ≤ 0 by decide, show -((0 : Int) * 1000000) ≤ 0 ∧ (0 : Int) ≤ 0 * 1000000 by decide,
   show -(2 * (0 : Int) + 1) ≤ 0 ∧ (0 : Int) ≤ 2 * 0 + 1 by decide, show -(0 : Int) ≤ 0 + downf 0 ∧ 0 + downf 0 ≤ (0 : Int) by decide, show (0 : Int) ≠ 1 by decide, fun e => by cases e⟩
theorem Nb.reboot {T u : Int} {s : NSt} (h : Nb T u s) (i : Nat) (hT : 0 ≤ T ∧ T ≤ 10000) : Nb T u (rebootN i s) := by
  obtain ⟨h1, h2, h3, h4, h5, h6, h7, h8, h9⟩ := h
  have e : (rebootN i s).base = offN s := by show cutf (offN s) 1000000000000 = _; unfold cutf; omega
  refine ⟨rfl, ⟨by show (0 : Int) ≤ 0; decide, by show (0 : Int) ≤ 255; decide⟩, ⟨by show (0 : Int) ≤ 0; decide, by show (0 : Int) ≤ T; omega⟩, ⟨by show (0 : Int) ≤ 0; decide, by show (0 : Int) ≤ T; omega⟩, ?_, by rw [e]; omega, ?_, by show (0 : Int) ≠ 1; decide, fun e => by cases e⟩
  · show -(T * 1000000) ≤ 0 ∧ 0 ≤ T * 1000000; omega
  · have : offN (rebootN i s) = (rebootN i s).base + 0 := rfl
    rw [this, e]; omega
end Go.Proofs.YtnpihllannobgaaGreatDoor
namespace Go.Proofs.YtnpihllannobgaaGreatDoor
set_option linter.unusedVariables false
set_option linter.unusedSimpArgs false

/-- what a slot begins with. -/
structure Sim (c : Cfg) (d : Dr) (t : Int) (x : WM) : Prop where
  hc : CfgOk c
  hn : x.nodes.length = c.nodes
  t0 : 0 ≤ t ∧ t ≤ 1000
  nb : ∀ i, i < c.nodes → Nb t t (x.nd i)
  ev : ∀ i, i < c.nodes → (x.nd i).ev = []
  err : ∀ i, atL d.err i = 0
  guard : 2 * (t + 1) ≤ c.guard
/-- what is asked of a node. -/
def AOk (n : Nat) (i : Nat) (a : AN) : Prop :=
  if i = 0 then a.syn = true ∧ a.p = none
  else if a.syn = true then (∃ R L x, a.p = some (R, L) ∧ a.k = some x ∧ 0 ≤ R ∧ R ≤ 255) ∧ 0 ≤ firstA a ∧ firstA a < n ∧ firstA a ≠ i
  else a.p = none
section
variable {c : Cfg} {d : Dr} {t : Int} {x : WM}
theorem AOk.tick {n i : Nat} {a : AN} (h : AOk n i a) : AOk n i (tickA a) := h
theorem Sim.sS (h : Sim c d t x) {i : Nat} (hi : i < c.nodes) : Nb (t + 1) t (vS d x i) := (h.nb i hi).slot i _
theorem Sim.sSe (h : Sim c d t x) {i : Nat} (hi : i < c.nodes) : (vS d x i).ev = [] := h.ev i hi
/-- a node that does not send. -/
theorem vP_idle {i : Nat} (h : ¬ ((vS d x i).synced = true ∧ t % (c.nodes : Int) = (i : Int))) : vP c d t x i = (vS d x i, chanN c (vS d x i) t, []) := by
  unfold vP planN
  rw [if_neg (by simpa using h)]
theorem vP_send {i : Nat} (h1 : (vS d x i).synced = true) (h2 : t % (c.nodes : Int) = (i : Int)) : vP c d t x i = (sendN (vS d x i) (nextN c i (vS d x i) t) t, chanN c (vS d x i) t, encO (nextN c i (vS d x i) t)) := by
  unfold vP planN
  rw [if_pos (by simp [h1, h2])]
theorem vP_off (i : Nat) : offN (vP c d t x i).1 = offN (vS d x i) ∧ (vP c d t x i).1.synced = (vS d x i).synced ∧ absN (vP c d t x i).1 = absN (vS d x i) ∧ (vP c d t x i).2.1 = chanN c (vS d x i) t ∧ (vP c d t x i).1.ev = (vS d x i).ev := by
  unfold vP planN
  split
  · exact ⟨rfl, rfl, rfl, rfl, rfl⟩
  · exact ⟨rfl, rfl, rfl, rfl, rfl⟩
theorem Sim.sM (h : Sim c d t x) {i j : Nat} (hi : i < c.nodes) (hj : j < c.nodes) : vM c d t x i j = offN (vS d x j) - offN (vS d x i) ∧ -30000 < vM c d t x i j ∧ vM c d t x i j < 30000 := by
  have a := (h.sS hi).off
  have b := (h.sS hj).off
  have ht := h.t0
  have e : vM c d t x i j = meas (offN (vS d x i)) (offN (vS d x j)) 0 c.err := by
    unfold vM vA
    rw [h.err i, (vP_off i).1, (vP_off j).1]
  rw [e]
  generalize offN (vS d x i) = u at *
  generalize offN (vS d x j) = v at *
  have e2 : meas u v 0 c.err = v - u := by
    unfold meas
    have l0 : cutf 0 (lim c.err) = 0 := by unfold cutf lim; omega
    have l1 : cutf v 1000000000000 = v := by unfold cutf; omega
    have l2 : cutf u 1000000000000 = u := by unfold cutf; omega
    rw [l0, l1, l2]; unfold cutf; omega
  rw [e2]
  exact ⟨rfl, by omega, by omega⟩
theorem Sim.within (h : Sim c d t x) {i j : Nat} (hi : i < c.nodes) (hj : j < c.nodes) : withinB (vA c d t x i).2.2 (vA c d t x j).2.2 c.guard = true := by
  have a := (h.sS hi).off
  have b := (h.sS hj).off
  have ht := h.t0
  have hg := h.guard
  unfold vA
  rw [(vP_off i).1, (vP_off j).1]
  generalize offN (vS d x i) = u at *
  generalize offN (vS d x j) = v at *
  unfold withinB
  exact decide_eq_true ⟨by omega, by show max u v - min u v ≤ c.guard; omega⟩
theorem filter_one {n : Nat} {p : Nat → Bool} {j : Nat} (hj : j < n) (h : ∀ k, k < n → k ≠ j → p k = false) : (List.range n).filter p = if p j then [j] else [] := by
  induction n with
  | zero => omega
  | succ n ih =>
    rw [List.range_succ, List.filter_append]
    by_cases e : j = n
    · subst e
      have h0 : (List.range j).filter p = [] := by
        rw [List.filter_eq_nil_iff]
        intro k hk
        rw [List.mem_range] at hk
        rw [h k (by omega) (by omega)]; simp
      rw [h0]
      by_cases hp : p j = true
      · rw [if_pos hp]; simp [hp]
      · rw [if_neg hp]; simp [hp]
    · rw [ih (by omega) (fun k hk hne => h k (by omega) hne)]
      have : p n = false := h n (by omega) (fun e2 => e e2.symm)
      simp [this]
/-- who hears node j, where only it sends. -/
def hrB (c : Cfg) (d : Dr) (t : Int) (x : WM) (i j : Nat) : Bool := bitW (atL c.near i) (atL d.lost i) j && chanN c (vS d x j) t == chanN c (vS d x i) t
theorem Sim.sL (h : Sim c d t x) {i j : Nat} (hi : i < c.nodes) (hj : j < c.nodes) (hne : (vP c d t x j).2.2.isEmpty = false) (ho : ∀ k, k < c.nodes → k ≠ j → (vP c d t x k).2.2 = []) : vL c d t x i = if hrB c d t x i j then [j] else [] := by
  unfold vL
  rw [filter_one hj (fun k hk hkj => by
    unfold vB
    have : (vA c d t x k).2.1 = [] := ho k hk hkj
    rw [this]; simp)]
  have e : vB c d t x i j = hrB c d t x i j := by
    unfold vB hrB
    rw [h.within hi hj]
    have e1 : (vA c d t x j).2.1 = (vP c d t x j).2.2 := rfl
    have e2 : (vA c d t x j).1 = chanN c (vS d x j) t := (vP_off j).2.2.2.1
    have e3 : (vA c d t x i).1 = chanN c (vS d x i) t := (vP_off i).2.2.2.1
    rw [e1, e2, e3, hne]; simp
  rw [e]
theorem Sim.sL0 (h : Sim c d t x) {i : Nat} (ho : ∀ k, k < c.nodes → (vP c d t x k).2.2 = []) : vL c d t x i = [] := by
  unfold vL
  rw [List.filter_eq_nil_iff]
  intro k hk
  rw [List.mem_range] at hk
  unfold vB
  have : (vA c d t x k).2.1 = [] := ho k hk
  rw [this]; simp
end
end Go.Proofs.YtnpihllannobgaaGreatDoor
namespace Go.Proofs.YtnpihllannobgaaGreatDoor
set_option linter.unusedVariables false
set_option linter.unusedSimpArgs false

theorem mayE_sync {t rk : Int} (h0 : 0 ≤ t) (h1 : t ≤ 1099511627775) (h2 : 0 ≤ rk) (h3 : rk ≤ 255) : mayE ⟨1, t, rk, 0, []⟩ = true := by
  simp [mayE, ofE, insideE, plainE, inR, h0, h1, h2, h3]
theorem mayE_corr {n : Int} (h2 : -32768 ≤ n) (h3 : n ≤ 32767) : mayE ⟨2, 0, 0, n, []⟩ = true := by
  simp [mayE, ofE, insideE, plainE, inR, h2, h3]
theorem mayE_hops {L : List Int} (h : HopOk L) : mayE ⟨3, 0, 0, 0, L⟩ = true := by
  have : L.all (fun n => inR n 0 255) = true := by
    rw [List.all_eq_true]
    intro z hz
    have := h.1 z hz
    simp only [inR, Bool.and_eq_true, decide_eq_true_eq]; omega
  simp only [mayE, ofE, insideE, plainE, inR]
  simp only [inR] at this
  simp [this]
  exact h.2.2.2
section
variable {c : Cfg} {d : Dr} {t : Int} {x : WM}
theorem rankN_bd {n i : Nat} {s : NSt} (h : AOk n i (absN s)) : 0 ≤ rankN i s ∧ rankN i s ≤ 255 := by
  unfold AOk at h
  unfold rankN
  by_cases h0 : i = 0
  · simp [h0]; split <;> omega
  · rw [if_neg h0] at h
    by_cases hs : s.synced = true
    · rw [if_pos (show (absN s).syn = true from hs)] at h
      obtain ⟨⟨R, L, k, e, _, r0, r1⟩, _⟩ := h
      have e : s.p = some (R, L) := e
      rw [if_pos hs, if_neg h0, e]; exact ⟨r0, r1⟩
    · rw [if_neg hs]; omega
/-- the frames of nodes that have nothing to hand on. -/
theorem next_is (hc : CfgOk c) {i : Nat} (hi : i < c.nodes) {s : NSt} {T u : Int} (hb : Nb T u s) (ha : AOk c.nodes i (absN s)) (ht : 0 ≤ t ∧ t ≤ 1000) (hs : s.synced = true) :
    mayF (nextN c i s t) = true ∧ (nextN c i s t).src = i ∧ (nextN c i s t).seq = s.seq ∧ rankF (nextN c i s t) t = (rankN i s, true) ∧ ((nextN c i s t).kind = 3 ∧ (nextN c i s t).dst = 64 ∨
      (nextN c i s t).kind = 4 ∧ (nextN c i s t).dst = firstN s ∧ i ≠ 0 ∧ 0 ≤ firstN s ∧ firstN s < c.nodes ∧ firstN s ≠ i ∧ dueN c s = true) := by
  have hn := hc.n1
  have hk : (pktN s).2.2 = false := by unfold pktN; rw [hb.q]
  obtain ⟨r0, r1⟩ := rankN_bd ha
  have m1 : mayE (syncE i s t) = true := mayE_sync ht.1 (by omega) r0 r1
  unfold nextN
  rw [hk]
  simp only [Bool.false_eq_true, if_false]
  by_cases hd : firstN s ≠ 64 ∧ dueN c s = true
  · rw [if_pos hd]
    have hi0 : i ≠ 0 := fun e => by
      unfold AOk at ha
      rw [if_pos e] at ha
      have e2 : s.p = none := ha.2
      exact hd.1 (by unfold firstN; rw [e2])
    have h3 : 0 ≤ firstN s ∧ firstN s < c.nodes ∧ firstN s ≠ i := by
      unfold AOk at ha
      rw [if_neg hi0, if_pos (show (absN s).syn = true from hs)] at ha
      exact ha.2
    refine ⟨?_, rfl, rfl, ?_, .inr ⟨rfl, rfl, hi0, h3.1, h3.2.1, h3.2.2, hd.2⟩⟩
    · have a1 : nodeB (i : Int) = true := by unfold nodeB inR; simp; omega
      have a2 : nodeB (firstN s) = true := by unfold nodeB inR; simp; omega
      have a3 : (firstN s != (i : Int)) = true := by simpa using h3.2.2
      have a4 : inR s.seq 0 255 = true := by have := hb.seq; unfold inR; simp; omega
      have a5 : (firstN s != 64) = true := by simpa using hd.1
      unfold mayF saysF
      simp [a1, a2, a3, a4, a5, m1]
    · unfold rankF findE syncE
      simp
  · rw [if_neg hd]
    refine ⟨?_, rfl, rfl, ?_, .inl ⟨rfl, rfl⟩⟩
    · have a1 : nodeB (i : Int) = true := by unfold nodeB inR; simp; omega
      have a3 : ((64 : Int) != (i : Int)) = true := by simp; omega
      have a4 : inR s.seq 0 255 = true := by have := hb.seq; unfold inR; simp; omega
      have m2 := mayE_hops hc.hops
      have m3 : (syncE i s t).kind = 1 := rfl
      unfold mayF saysF
      simp [a1, a3, a4, m1, m2, findE, m3]
    · unfold rankF findE syncE
      simp
theorem encF_ne (f : Fr) : (encF f).isEmpty = false := by
  unfold encF bodyF headF
  simp [be]
theorem Sim.sA (h : Sim c d t x) (ha : ∀ i, i < c.nodes → AOk c.nodes i (absN (x.nd i))) {i : Nat} (hi : i < c.nodes) : AOk c.nodes i (absN (vS d x i)) := by
  have e : absN (vS d x i) = tickA (absN (x.nd i)) := abs_slot _ _ _
  rw [e]; exact (ha i hi).tick
/-- what node j sends. -/
def nxF (c : Cfg) (d : Dr) (t : Int) (x : WM) (j : Nat) : Fr := nextN c j (vS d x j) t
/-- node j sends: what is in the air, and who hears it. -/
structure Snds (c : Cfg) (d : Dr) (t : Int) (x : WM) (j : Nat) : Prop where
  jn : j < c.nodes
  syn : (vS d x j).synced = true
  pl : vP c d t x j = (sendN (vS d x j) (nxF c d t x j) t, chanN c (vS d x j) t, encF (nxF c d t x j))
  dx : vX c d t x j = (0, nxF c d t x j)
  other : ∀ k, k < c.nodes → k ≠ j → vP c d t x k = (vS d x k, chanN c (vS d x k) t, [])
  may : mayF (nxF c d t x j) = true
  src : (nxF c d t x j).src = j
  seq : (nxF c d t x j).seq = (vS d x j).seq
  rk : rankF (nxF c d t x j) t = (rankN j (vS d x j), true)
  kd : (nxF c d t x j).kind = 3 ∧ (nxF c d t x j).dst = 64 ∨ (nxF c d t x j).kind = 4 ∧ (nxF c d t x j).dst = firstN (vS d x j) ∧ j ≠ 0 ∧ 0 ≤ firstN (vS d x j) ∧ firstN (vS d x j) < c.nodes ∧ firstN (vS d x j) ≠ j ∧ dueN c (vS d x j) = true
theorem Sim.snds (h : Sim c d t x) (ha : ∀ i, i < c.nodes → AOk c.nodes i (absN (x.nd i))) {j : Nat} (hj : j < c.nodes) (ht : t % (c.nodes : Int) = (j : Int)) (hs : (x.nd j).synced = true) : Snds c d t x j := by
  have hs2 : (vS d x j).synced = true := hs
  obtain ⟨n1, n2, n3, n4, n5⟩ := next_is h.hc hj (h.sS hj) (h.sA ha hj) h.t0 hs2
  have hp : vP c d t x j = (sendN (vS d x j) (nxF c d t x j) t, chanN c (vS d x j) t, encF (nxF c d t x j)) := by
    rw [vP_send hs2 ht]
    unfold encO nxF
    rw [if_pos n1]
  refine ⟨hj, hs2, hp, ?_, fun k hk hkj => vP_idle (fun e => hkj (by omega)), n1, n2, n3, n4, n5⟩
  unfold vX vA
  rw [hp]
  exact decF_enc _ n1
section
variable {j : Nat}
theorem Snds.ne (k : Snds c d t x j) : (vP c d t x j).2.2.isEmpty = false := by rw [k.pl]; exact encF_ne _
theorem Snds.good (h : Sim c d t x) (k : Snds c d t x j) {i : Nat} (hij : i ≠ j) : goodF i c (0, nxF c d t x j) = true := by
  have hj := k.jn
  unfold goodF
  rw [k.src]
  simp only [inR, beq_self_eq_true, Bool.true_and, Bool.and_eq_true, decide_eq_true_eq, Bool.not_eq_true', beq_eq_false_iff_ne, ne_eq]
  omega
theorem Snds.oH (h : Sim c d t x) (k : Snds c d t x j) {i : Nat} (hi : i < c.nodes) (hij : i ≠ j) : vH c d t x i = if hrB c d t x i j then hearN i c (vS d x i) (0, nxF c d t x j) t (offN (vS d x j) - offN (vS d x i)) id else vS d x i := by
  have e := k.other i hi hij
  unfold vH vA
  rw [h.sL hi k.jn k.ne (fun q hq hqj => by rw [k.other q hq hqj]), e]
  simp only [List.isEmpty_nil, if_true]
  by_cases hr : hrB c d t x i j = true
  · rw [if_pos hr, if_pos hr]
    show hearN i c (vS d x i) (vX c d t x j) t (vM c d t x i j) id = _
    rw [k.dx, (h.sM hi k.jn).1]
  · rw [if_neg hr, if_neg hr]
theorem Snds.oHj (k : Snds c d t x j) : vH c d t x j = sendN (vS d x j) (nxF c d t x j) t := by
  unfold vH vA
  rw [k.pl]
  simp only []
  rw [if_neg (by rw [encF_ne]; simp)]
theorem Snds.oQ (k : Snds c d t x j) {i : Nat} (hi : i < c.nodes) (hij : i ≠ j) : vQ c d t x i = noEv (vH c d t x i) := by
  unfold vQ vA
  rw [k.other i hi hij]; rfl
theorem Snds.oQj (k : Snds c d t x j) : vQ c d t x j = ackN j (noEv (sendN (vS d x j) (nxF c d t x j) t)) ((vW c d t x j).getD []) t := by
  unfold vQ
  rw [k.oHj]
  unfold vA
  rw [k.pl]
  simp only []
  rw [if_neg (by rw [encF_ne]; simp)]
/-- what is heard of node j. -/
def heardA (c : Cfg) (d : Dr) (t : Int) (x : WM) (j i : Nat) : AN :=
  if hrB c d t x i j then hearA i c.loss (tickA (absN (x.nd i))) j (nxF c d t x j).kind (rankA j (tickA (absN (x.nd j)))) t else tickA (absN (x.nd i))
theorem Snds.other_abs (h : Sim c d t x) (k : Snds c d t x j) {i : Nat} (hi : i < c.nodes) (hij : i ≠ j) :
    absN (vQ c d t x i) = heardA c d t x j i ∧ Nb (t + 1) (t + 1) (vQ c d t x i) := by
  have hnb := (h.sS hi).more (Int.le_refl _) (show t ≤ t + 1 by omega)
  have ho := (h.sS k.jn).off
  have ht := h.t0
  rw [k.oQ hi hij, k.oH h hi hij]
  unfold heardA
  by_cases hr : hrB c d t x i j = true
  · rw [if_pos hr, if_pos hr]
    refine ⟨?_, (hnb.hear i c _ t _ (offN (vS d x j)) rfl ho (by omega)).noEv⟩
    rw [abs_noEv, abs_hear i c _ _ _ _ (k.good h hij) (by rw [k.rk]), k.src, k.rk]
    rfl
  · rw [if_neg hr, if_neg hr]
    exact ⟨rfl, hnb.noEv⟩
/-- a beacon: nothing comes back. -/
theorem Snds.beacon_abs (h : Sim c d t x) (k : Snds c d t x j) (hk : (nxF c d t x j).kind = 3) : vQ c d t x j = noEv (sendN (vS d x j) (nxF c d t x j) t) := by
  rw [k.oQj]
  unfold ackN
  have e : (noEv (sendN (vS d x j) (nxF c d t x j) t)).sopen = false := by
    show ((nxF c d t x j).kind != 3) = false
    rw [hk]; rfl
  rw [e]
  simp
/-- a frame that is not answered. -/
theorem decF_nil : (decF []).1 ≠ 0 := by decide +kernel
theorem Snds.lost_abs (h : Sim c d t x) (k : Snds c d t x j) (hw : (vW c d t x j).getD [] = []) :
    absN (vQ c d t x j) = tickA (absN (x.nd j)) ∧ Nb (t + 1) (t + 1) (vQ c d t x j) := by
  have hk1 : (nxF c d t x j).kind ≠ 1 := by rcases k.kd with e | e <;> rw [e.1] <;> decide
  have hnb := ((h.sS k.jn).send (nxF c d t x j) t hk1 (by omega)).noEv
  rw [k.oQj, hw]
  have hg : goodA j (noEv (sendN (vS d x j) (nxF c d t x j) t)) (decF []) t = false := by
    unfold goodA
    have : ((decF []).1 == 0) = false := by simpa using decF_nil
    rw [this]; simp
  unfold ackN
  rw [hg]
  split
  · simp only [Bool.false_eq_true, if_false]
    exact ⟨rfl, hnb.opn⟩
  · exact ⟨rfl, hnb⟩
theorem Snds.beacon_w (k : Snds c d t x j) (hn : c.nodes ≤ 16) (hk : (nxF c d t x j).kind = 3) : (vW c d t x j).getD [] = [] := by
  have hd : (nxF c d t x j).dst = 64 := by
    rcases k.kd with e | e
    · exact e.2
    · rw [hk] at e; exact absurd e.1 (by decide)
  unfold vW
  rw [k.dx, hd]
  have : inR 64 0 ((c.nodes : Int) - 1) = false := by unfold inR; simp; omega
  rw [this]; simp
end
end
end Go.Proofs.YtnpihllannobgaaGreatDoor
namespace Go.Proofs.YtnpihllannobgaaGreatDoor
set_option linter.unusedVariables false
set_option linter.unusedSimpArgs false

section
variable {c : Cfg} {d : Dr} {t : Int} {x : WM} {j : Nat}
theorem Snds.acked_abs (h : Sim c d t x) (k : Snds c d t x j) (hk4 : (nxF c d t x j).kind = 4) (D : Nat) (hD : (nxF c d t x j).dst = D) (hDn : D < c.nodes) (hr : hrB c d t x D j = true) (hb : bitW (atL c.near j) (atL d.acks j) D = true)
    (hs : (x.nd D).synced = true) (hD0 : D ≠ 0) (hA : AOk c.nodes D (heardA c d t x j D)) :
    absN (vQ c d t x j) = hearsA (tickA (absN (x.nd j))) D (rankA D (heardA c d t x j D)) t ∧ Nb (t + 1) (t + 1) (vQ c d t x j) := by
  have hn1 := h.hc.n1
  have ht := h.t0
  have hjn := k.jn
  have hkd : (nxF c d t x j).dst = firstN (vS d x j) ∧ j ≠ 0 ∧ firstN (vS d x j) ≠ j := by
    rcases k.kd with e | e
    · rw [hk4] at e; exact absurd e.1 (by decide)
    · exact ⟨e.2.1, e.2.2.1, e.2.2.2.2.2.1⟩
  have hDj : D ≠ j := fun e => hkd.2.2 (by rw [← hkd.1, hD, e])
  have hk1 : (nxF c d t x j).kind ≠ 1 := by rw [hk4]; decide
  have hnj := ((h.sS k.jn).send (nxF c d t x j) t hk1 (by omega)).noEv
  obtain ⟨F, hF⟩ : ∃ F, F = nxF c d t x j := ⟨_, rfl⟩
  -- how D is then
  have hsD : (vS d x D).synced = true := hs
  obtain ⟨ms, hms⟩ : ∃ ms, ms = offN (vS d x j) - offN (vS d x D) := ⟨_, rfl⟩
  have hgd := k.good h hDj
  have hrk := k.rk
  have hsrc := k.src
  have hseq := k.seq
  have hmsb := (h.sM hDn k.jn)
  rw [← hms] at hmsb
  rw [← hF] at hgd hrk hsrc hseq hD hk4 hnj
  obtain ⟨s', hs'⟩ : ∃ s', s' = hearsN D (evN (vS d x D) ⟨1, D, F.src, 0, pk0⟩) F.src (rankF F t).1 t ms := ⟨_, rfl⟩
  have habs : absN s' = heardA c d t x j D := by
    rw [hs', abs_hears, hsrc, hrk]
    unfold heardA
    rw [if_pos hr]
    unfold hearA
    rw [if_pos (show (tickA (absN (x.nd D))).syn = true from hs), if_neg hD0]
    rfl
  have hsyn : s'.synced = true := by
    have e1 : (absN s').syn = true := by
      rw [habs]
      unfold heardA hearA
      rw [if_pos hr, if_pos (show (tickA (absN (x.nd D))).syn = true from hs), if_neg hD0]
      rw [hearsA_syn]; exact hs
    exact e1
  have hf64 : firstN s' ≠ 64 := by
    have := hA
    unfold AOk at this
    rw [if_neg hD0, ← habs, if_pos (show (absN s').syn = true from hsyn)] at this
    have e : firstA (absN s') = firstN s' := rfl
    rw [e] at this
    omega
  obtain ⟨r0, r1⟩ := rankN_bd (show AOk c.nodes D (absN s') from habs ▸ hA)
  have hmay : mayF (ackFr D s' F t ms) = true := by
    have a1 : nodeB (D : Int) = true := by unfold nodeB inR; simp; omega
    have a2 : nodeB (j : Int) = true := by unfold nodeB inR; simp; omega
    have a3 : ((j : Int) != (D : Int)) = true := by simp; omega
    have a4 : inR F.seq 0 255 = true := by rw [hseq]; have := (h.sS k.jn).seq; unfold inR; simp; omega
    have a5 : ((j : Int) != 64) = true := by simp; omega
    have m1 : mayE (syncE D s' t) = true := mayE_sync ht.1 (by omega) r0 r1
    have m2 : mayE ⟨2, 0, 0, -ms, []⟩ = true := mayE_corr (by omega) (by omega)
    unfold mayF saysF ackFr
    rw [hsrc]
    simp [a1, a2, a3, a4, a5, m1, m2]
  have hK : vK c d t x D = some (encF (ackFr D s' F t ms)) := by
    have e := k.other D hDn hDj
    have eA : (vA c d t x D).2.1 = [] := by unfold vA; rw [e]
    unfold vK
    rw [eA, h.sL hDn k.jn k.ne (fun q hq hqj => by rw [k.other q hq hqj]), if_pos hr, e]
    show ansN D c (vS d x D) (vX c d t x j) t (vM c d t x D j) (backA D (vX c d t x j).2 t (vM c d t x D j)) = _
    rw [k.dx, ← hF, hmsb.1]
    unfold ansN
    rw [hgd]
    simp only [hrk, hsD, Bool.and_self, if_true]
    rw [if_neg hD0]
    have e2 : hearsN D (evN (vS d x D) ⟨1, D, F.src, 0, pk0⟩) F.src (rankN j (vS d x j)) t ms = s' := by rw [hs', hrk]
    rw [e2, if_neg hf64]
    unfold backA
    rw [if_pos ⟨hD, .inr hk4⟩, if_pos hmay]
  have hW : (vW c d t x j).getD [] = encF (ackFr D s' F t ms) := by
    unfold vW
    rw [k.dx, ← hF, hD]
    have e1 : inR (D : Int) 0 ((c.nodes : Int) - 1) = true := inR_yes (by omega) (by omega)
    have e2 : bitW (atL c.near j) (atL d.acks j) (D : Int).toNat = true := hb
    simp only [e1, e2]
    rw [Int.toNat_natCast, hK]
    rfl
  rw [k.oQj, hW]
  rw [← hF]
  have hdec := decF_enc _ hmay
  have hrkA : rankF (ackFr D s' F t ms) t = (rankN D s', true) := by
    unfold rankF findE ackFr syncE
    simp
  have hgood : goodA j (noEv (sendN (vS d x j) F t)) (decF (encF (ackFr D s' F t ms))) t = true := by
    rw [hdec]
    unfold goodA
    rw [hrkA]
    have e1 : (ackFr D s' F t ms).kind = 2 := rfl
    have e2 : (ackFr D s' F t ms).src = D := rfl
    have e3 : (ackFr D s' F t ms).dst = j := hsrc
    have e4 : (ackFr D s' F t ms).seq = F.seq := rfl
    have e5 : (noEv (sendN (vS d x j) F t)).sdst = F.dst := rfl
    have e6 : (noEv (sendN (vS d x j) F t)).sseq = F.seq := rfl
    rw [e1, e2, e3, e4, e5, e6, hD]
    simp
  have hopen : (noEv (sendN (vS d x j) F t)).sopen = true := by
    show (F.kind != 3) = true
    rw [hk4]; decide
  have hsy : (noEv (sendN (vS d x j) F t)).synced = true := k.syn
  have hasn : (noEv (sendN (vS d x j) F t)).sasn = t := rfl
  have hfst : firstN (noEv (sendN (vS d x j) F t)) = (noEv (sendN (vS d x j) F t)).sdst := by
    show firstN (vS d x j) = F.dst
    rw [hF, hkd.1]
  unfold ackN
  rw [hgood, hopen, hsy, hasn, hfst]
  simp only [decide_true, Bool.and_self, if_true]
  rw [if_pos ⟨hkd.2.1, trivial⟩]
  have hsd : (noEv (sendN (vS d x j) F t)).sdst = D := hD
  rw [hsd, hdec]
  refine ⟨?_, ?_⟩
  · rw [abs_hears, hrkA]
    rw [abs_rank, habs]
    rfl
  · refine Nb.hears (z := offN (vS d x D)) hnj.opn j _ _ _ _ ?_ (h.sS hDn).off (by omega)
    have e1 : ticksF (ackFr D s' F t ms) = -ms := by
      unfold ticksF findE ackFr syncE
      simp
    have e2 : offN (opnN (noEv (sendN (vS d x j) F t)) false) = offN (vS d x j) := rfl
    rw [e1, e2, hms]; omega
/-- nobody sends. -/
def Mute (c : Cfg) (d : Dr) (t : Int) (x : WM) : Prop := ∀ k, k < c.nodes → ¬ ((x.nd k).synced = true ∧ t % (c.nodes : Int) = (k : Int))
theorem Mute.oP (k : Mute c d t x) {i : Nat} (hi : i < c.nodes) : vP c d t x i = (vS d x i, chanN c (vS d x i) t, []) := vP_idle (k i hi)
theorem Mute.oH (h : Sim c d t x) (k : Mute c d t x) {i : Nat} (hi : i < c.nodes) : vH c d t x i = vS d x i := by
  unfold vH vA
  rw [h.sL0 (fun q hq => by rw [k.oP hq]), k.oP hi]
  simp
theorem Mute.oQ (h : Sim c d t x) (k : Mute c d t x) {i : Nat} (hi : i < c.nodes) : vQ c d t x i = noEv (vS d x i) := by
  unfold vQ
  rw [k.oH h hi]
  unfold vA
  rw [k.oP hi]
  rfl
theorem Mute.abs (h : Sim c d t x) (k : Mute c d t x) {i : Nat} (hi : i < c.nodes) : absN (vQ c d t x i) = tickA (absN (x.nd i)) ∧ Nb (t + 1) (t + 1) (vQ c d t x i) := by
  rw [k.oQ h hi]
  exact ⟨rfl, ((h.sS hi).more (Int.le_refl _) (by omega)).noEv⟩
end
end Go.Proofs.YtnpihllannobgaaGreatDoor
