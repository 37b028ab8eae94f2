/- Four nodes: what is heard in a slot. Four nodes: how a slot turns what each keeps. Four nodes: three are in time. Four nodes: from the first slot to the last one. No condition. -/
import Derived.Test.YtnpihllannobgaaGreatDoorG34
namespace Go.Proofs.YtnpihllannobgaaGreatDoor
set_option linter.unusedVariables false
set_option linter.unusedSimpArgs false

def cF (keep loss : Int) : Cfg := ⟨4, [6, 9, 9, 6], [3, 7], 1000, 2, keep, loss, 4, 5⟩
theorem cF_ok {keep loss : Int} (hk : 5 ≤ keep ∧ keep ≤ 44) (hl : 12 ≤ loss ∧ loss ≤ 71) : CfgOk (cF keep loss) := by
  refine ⟨show 2 ≤ 4 by decide, show 4 ≤ 16 by decide, rfl, ?_, ⟨show ∀ c ∈ ([3, 7] : List Int), 0 ≤ c ∧ c ≤ 31 by decide, show ([3, 7] : List Int).Nodup by decide, show 1 ≤ 2 by decide, show 2 ≤ 16 by decide⟩,
    show (1 : Int) ≤ 1000 ∧ (1000 : Int) ≤ 4000 by decide, show (0 : Int) ≤ 2 ∧ (2 : Int) ≤ 1000 by decide, show 1 ≤ keep ∧ keep ≤ 10000 by omega, show 2 ≤ loss ∧ loss ≤ 10000 by omega,
    show (1 : Int) ≤ 4 ∧ (4 : Int) ≤ 32 by decide, show (1 : Int) ≤ 5 ∧ (5 : Int) ≤ 15 by decide⟩
  intro i z hz
  have hz : ([6, 9, 9, 6] : List Int)[i]? = some z := hz
  show 0 ≤ z ∧ z < 65536 ∧ z < 2 ^ 4 ∧ z / 2 ^ i % 2 = 0
  match i, hz with
  | 0, hz => cases hz; decide
  | 1, hz => cases hz; decide
  | 2, hz => cases hz; decide
  | 3, hz => cases hz; decide
  | (n + 4), hz => simp at hz
def btB (L i j : Nat) : Bool := decide (i ≠ j) && decide (i + j ≠ 3) && decide (i ≠ L)
/-- what the air lets through. -/
structure DOk (L : Nat) (d : Dr) : Prop where
  bt : ∀ i j : Nat, i < 4 → j < 4 → bitW (atL [6, 9, 9, 6] i) (atL d.lost i) j = btB L i j
  ak : d.acks = []
  er : d.err = []
theorem dok0 (dr : List Int) : DOk 9 ⟨dr, [], [], []⟩ := by
  refine ⟨fun i j hi hj => ?_, rfl, rfl⟩
  have : ∀ i j : Fin 4, bitW (atL [6, 9, 9, 6] i.1) (atL [] i.1) j.1 = btB 9 i.1 j.1 := by decide +kernel
  exact this ⟨i, hi⟩ ⟨j, hj⟩
theorem dok1 (dr : List Int) : DOk 1 ⟨dr, [0, 18446744073709551615, 0, 0], [], []⟩ := by
  refine ⟨fun i j hi hj => ?_, rfl, rfl⟩
  have : ∀ i j : Fin 4, bitW (atL [6, 9, 9, 6] i.1) (atL [0, 18446744073709551615, 0, 0] i.1) j.1 = btB 1 i.1 j.1 := by decide +kernel
  exact this ⟨i, hi⟩ ⟨j, hj⟩
section
variable {c : Cfg} {keep loss t n : Int} {d : Dr} {x : WM} {i j L : Nat}
theorem ch_syn (h : (absN (x.nd i)).syn = true) : chanN c (vS d x i) t = chanOf c.hops t := by
  unfold chanN
  rw [if_pos (show (vS d x i).synced = true from h)]
theorem ch_un (h : Us n (absN (x.nd i))) : chanN c (vS d x i) t = chanOf c.hops ((n + 1) / ((c.nodes : Int) * (c.hops.length : Int))) := by
  unfold chanN
  have e : (vS d x i).synced = false := h.1
  have e2 : (vS d x i).slots = n + 1 := by
    show (x.nd i).slots + 1 = n + 1
    rw [show (x.nd i).slots = n from h.2.2.2]
  rw [if_neg (by rw [e]; decide), e2]
theorem chF (a : Int) : chanOf [3, 7] a = if a % 2 = 0 then 3 else 7 := by
  unfold chanOf
  have e2 : (([3, 7] : List Int).length : Int) = 2 := rfl
  rw [e2]
  have : a % 2 = 0 ∨ a % 2 = 1 := by omega
  rcases this with e | e
  · rw [e]; rfl
  · rw [e]; rfl
theorem hrF (hd : DOk L d) (hi : i < 4) (hj : j < 4) : hrB (cF keep loss) d t x i j = (btB L i j && (chanN (cF keep loss) (vS d x j) t == chanN (cF keep loss) (vS d x i) t)) := by
  unfold hrB
  rw [show (cF keep loss).near = [6, 9, 9, 6] from rfl, hd.bt i j hi hj]
theorem hd_no (hd : DOk L d) (hi : i < 4) (hj : j < 4) (h : btB L i j = false) : heardA (cF keep loss) d t x j i = tickA (absN (x.nd i)) := by
  unfold heardA
  rw [hrF hd hi hj, h]
  rfl
theorem hd_root (hz : Zs (absN (x.nd 0))) : heardA c d t x j 0 = tickA (absN (x.nd 0)) := by
  unfold heardA
  split
  · unfold hearA
    rw [if_pos (show (tickA (absN (x.nd 0))).syn = true from hz.1), if_pos rfl]
  · rfl
theorem hd_syn (hd : DOk L d) (hi : i < 4) (hj : j < 4) (h : btB L i j = true) (hi0 : i ≠ 0) (hs : (absN (x.nd i)).syn = true) (hsj : (absN (x.nd j)).syn = true) :
    heardA (cF keep loss) d t x j i = hearsA (tickA (absN (x.nd i))) j (rankA j (tickA (absN (x.nd j)))) t := by
  unfold heardA
  rw [hrF hd hi hj, h, ch_syn hs, ch_syn hsj]
  rw [if_pos (by simp)]
  unfold hearA
  rw [if_pos (show (tickA (absN (x.nd i))).syn = true from hs), if_neg hi0]
theorem hd_deaf (hu : Us n (absN (x.nd i))) (hn : n < c.loss) : heardA c d t x j i = tickA (absN (x.nd i)) := by
  unfold heardA
  split
  · unfold hearA
    rw [if_neg (by show ¬ (absN (x.nd i)).syn = true; rw [hu.1]; decide), if_neg]
    intro e
    have e2 := e.2.2
    have : (tickA (absN (x.nd i))).lis = n + 1 := by
      show (if (absN (x.nd i)).syn then _ else _) = n + 1
      rw [hu.1, hu.2.2.1]; rfl
    rw [this] at e2
    omega
  · rfl
theorem hd_far (hd : DOk L d) (hi : i < 4) (hj : j < 4) (hu : Us n (absN (x.nd i))) (hsj : (absN (x.nd j)).syn = true) (hc : (t % 2 = 0 ∧ (n + 1) / 8 % 2 ≠ 0) ∨ (t % 2 ≠ 0 ∧ (n + 1) / 8 % 2 = 0)) :
    heardA (cF keep loss) d t x j i = tickA (absN (x.nd i)) := by
  unfold heardA
  rw [hrF hd hi hj, ch_syn hsj, ch_un hu]
  have e : ((cF keep loss).nodes : Int) * ((cF keep loss).hops.length : Int) = 8 := rfl
  rw [e, show (cF keep loss).hops = [3, 7] from rfl, chF, chF]
  have : ((if t % 2 = 0 then (3 : Int) else 7) == (if (n + 1) / 8 % 2 = 0 then 3 else 7)) = false := by
    rcases hc with ⟨a, b⟩ | ⟨a, b⟩
    · rw [if_pos a, if_neg b]; decide
    · rw [if_neg a, if_pos b]; decide
  rw [this]
  simp
theorem hd_un (hd : DOk L d) (hi : i < 4) (hj : j < 4) (h : btB L i j = true) (hu : Us n (absN (x.nd i))) (hsj : (absN (x.nd j)).syn = true) (hc : t % 2 = 0 ∧ (n + 1) / 8 % 2 = 0) :
    heardA (cF keep loss) d t x j i = hearA i loss (tickA (absN (x.nd i))) j (nxF (cF keep loss) d t x j).kind (rankA j (tickA (absN (x.nd j)))) t := by
  unfold heardA
  rw [hrF hd hi hj, ch_syn hsj, ch_un hu, h]
  have e : ((cF keep loss).nodes : Int) * ((cF keep loss).hops.length : Int) = 8 := rfl
  rw [e, show (cF keep loss).hops = [3, 7] from rfl, chF, chF, if_pos hc.1, if_pos hc.2]
  rfl
theorem kd_root (k : Snds c d t x 0) : (nxF c d t x 0).kind = 3 := by
  rcases k.kd with e | e
  · exact e.1
  · exact absurd rfl e.2.2.1
theorem kd_beacon (k : Snds c d t x j) (hy : ∀ y, (absN (x.nd j)).k = some y → y < c.keep) : (nxF c d t x j).kind = 3 := by
  rcases k.kd with e | e
  · exact e.1
  · exfalso
    have e2 := e.2.2.2.2.2.2
    unfold dueN at e2
    have e3 : (vS d x j).k = (absN (x.nd j)).k := rfl
    rw [e3] at e2
    cases hk : (absN (x.nd j)).k with
    | none => rw [hk] at e2; cases e2
    | some y =>
      rw [hk] at e2
      have := hy y hk
      have e2 : decide (c.keep ≤ y) = true := e2
      simp at e2
      omega
theorem Snds.all (h : Sim c d t x) (k : Snds c d t x j) (hw : (vW c d t x j).getD [] = []) (hi : i < c.nodes) :
    absN (vQ c d t x i) = (if i = j then tickA (absN (x.nd i)) else heardA c d t x j i) ∧ Nb (t + 1) (t + 1) (vQ c d t x i) := by
  by_cases hij : i = j
  · subst hij
    rw [if_pos rfl]
    exact k.lost_abs h hw
  · rw [if_neg hij]
    exact k.other_abs h hi hij
theorem rank_root (hz : Zs (absN (x.nd 0))) : rankA 0 (tickA (absN (x.nd 0))) = 0 := by
  unfold rankA
  rw [if_pos (show (tickA (absN (x.nd 0))).syn = true from hz.1), if_pos rfl]
/-- what four nodes are like. -/
structure F4 (P0 P1 P2 P3 : AN → Prop) (x : WM) : Prop where
  a0 : P0 (absN (x.nd 0))
  a1 : P1 (absN (x.nd 1))
  a2 : P2 (absN (x.nd 2))
  a3 : P3 (absN (x.nd 3))
theorem F4.ok {P0 P1 P2 P3 : AN → Prop} (f : F4 P0 P1 P2 P3 x) (o0 : ∀ a, P0 a → AOk 4 0 a) (o1 : ∀ a, P1 a → AOk 4 1 a) (o2 : ∀ a, P2 a → AOk 4 2 a) (o3 : ∀ a, P3 a → AOk 4 3 a) : ∀ i, i < 4 → AOk 4 i (absN (x.nd i)) := by
  intro i hi
  match i, hi with
  | 0, _ => exact o0 _ f.a0
  | 1, _ => exact o1 _ f.a1
  | 2, _ => exact o2 _ f.a2
  | 3, _ => exact o3 _ f.a3
  | n + 4, h => omega
/-- a slot is over. -/
structure Adv (c : Cfg) (d : Dr) (t K : Int) (x : WM) : Prop where
  good : Good c (t + 1) (K + 3) (noEvW (slot5W c d c.nodes t x))
  ok : SlotOk c d t x
  nl : NoLost (slot5W c d c.nodes t x).ev
theorem adv {K : Int} {P0 P1 P2 P3 : AN → Prop} (g : Good (cF keep loss) t K x) (h : Sim (cF keep loss) d t x) (hK : 0 ≤ K ∧ K ≤ 100000000)
    (o0 : ∀ a, P0 a → AOk 4 0 a) (o1 : ∀ a, P1 a → AOk 4 1 a) (o2 : ∀ a, P2 a → AOk 4 2 a) (o3 : ∀ a, P3 a → AOk 4 3 a)
    (q0 : P0 (endA loss 0 (absN (vQ (cF keep loss) d t x 0)) t)) (q1 : P1 (endA loss 1 (absN (vQ (cF keep loss) d t x 1)) t)) (q2 : P2 (endA loss 2 (absN (vQ (cF keep loss) d t x 2)) t)) (q3 : P3 (endA loss 3 (absN (vQ (cF keep loss) d t x 3)) t))
    (hnb : ∀ i, i < 4 → Nb (t + 1) (t + 1) (vQ (cF keep loss) d t x i)) : Adv (cF keep loss) d t K x ∧ F4 P0 P1 P2 P3 (noEvW (slot5W (cF keep loss) d (cF keep loss).nodes t x)) := by
  have hq : ∀ i, i < (cF keep loss).nodes → AOk (cF keep loss).nodes i (endA (cF keep loss).loss i (absN (vQ (cF keep loss) d t x i)) t) := by
    intro i hi
    match i, hi with
    | 0, _ => exact o0 _ q0
    | 1, _ => exact o1 _ q1
    | 2, _ => exact o2 _ q2
    | 3, _ => exact o3 _ q3
    | n + 4, h => have h : n + 4 < 4 := h; omega
  obtain ⟨g1, g2, g3, g4⟩ := g.next h hK hq hnb
  have e : K + 1 + (cF keep loss).err = K + 3 := by show K + 1 + 2 = K + 3; omega
  rw [e] at g1
  refine ⟨⟨g1, g2, g3⟩, ?_, ?_, ?_, ?_⟩
  · rw [g4 0 (show 0 < 4 by decide)]; exact q0
  · rw [g4 1 (show 1 < 4 by decide)]; exact q1
  · rw [g4 2 (show 2 < 4 by decide)]; exact q2
  · rw [g4 3 (show 3 < 4 by decide)]; exact q3
end
end Go.Proofs.YtnpihllannobgaaGreatDoor
namespace Go.Proofs.YtnpihllannobgaaGreatDoor
set_option linter.unusedVariables false
set_option linter.unusedSimpArgs false

/-- where a slot begins. -/
structure Env (keep loss : Int) (L : Nat) (d : Dr) (t K : Int) (x : WM) : Prop where
  hk : 5 ≤ keep ∧ keep ≤ 44
  hl : 12 ≤ loss ∧ loss ≤ 71
  D : DOk L d
  t0 : 0 ≤ t ∧ t ≤ 400
  K0 : 0 ≤ K ∧ K ≤ 100000000
  g : Good (cF keep loss) t K x
section
variable {keep loss t K n : Int} {d : Dr} {x : WM} {i j L : Nat} {P0 P1 P2 P3 : AN → Prop}
theorem Env.sim (E : Env keep loss L d t K x) : Sim (cF keep loss) d t x :=
  E.g.sim (cF_ok E.hk E.hl) (by have := E.t0; omega) (fun i => by rw [E.D.er]; rfl) (by show 2 * (t + 1) ≤ 1000; have := E.t0; omega)
theorem Env.send (E : Env keep loss L d t K x) (hA : ∀ i, i < 4 → AOk 4 i (absN (x.nd i))) (hj : j < 4) (ht : t % 4 = (j : Int)) (hs : (absN (x.nd j)).syn = true) : Snds (cF keep loss) d t x j :=
  E.sim.snds hA hj ht hs
theorem adv_q (E : Env keep loss L d t K x) (k : Snds (cF keep loss) d t x j) (hw : (vW (cF keep loss) d t x j).getD [] = [])
    (o0 : ∀ a, P0 a → AOk 4 0 a) (o1 : ∀ a, P1 a → AOk 4 1 a) (o2 : ∀ a, P2 a → AOk 4 2 a) (o3 : ∀ a, P3 a → AOk 4 3 a)
    (q0 : P0 (endA loss 0 (if 0 = j then tickA (absN (x.nd 0)) else heardA (cF keep loss) d t x j 0) t)) (q1 : P1 (endA loss 1 (if 1 = j then tickA (absN (x.nd 1)) else heardA (cF keep loss) d t x j 1) t))
    (q2 : P2 (endA loss 2 (if 2 = j then tickA (absN (x.nd 2)) else heardA (cF keep loss) d t x j 2) t)) (q3 : P3 (endA loss 3 (if 3 = j then tickA (absN (x.nd 3)) else heardA (cF keep loss) d t x j 3) t)) :
    Adv (cF keep loss) d t K x ∧ F4 P0 P1 P2 P3 (noEvW (slot5W (cF keep loss) d (cF keep loss).nodes t x)) := by
  have h := E.sim
  have e : ∀ i, i < 4 → _ := fun i hi => k.all h hw (show i < (cF keep loss).nodes from hi)
  exact adv E.g h E.K0 o0 o1 o2 o3 (by rw [(e 0 (by decide)).1]; exact q0) (by rw [(e 1 (by decide)).1]; exact q1) (by rw [(e 2 (by decide)).1]; exact q2) (by rw [(e 3 (by decide)).1]; exact q3) (fun i hi => (e i hi).2)
theorem adv_m (E : Env keep loss L d t K x) (k : Mute (cF keep loss) d t x)
    (o0 : ∀ a, P0 a → AOk 4 0 a) (o1 : ∀ a, P1 a → AOk 4 1 a) (o2 : ∀ a, P2 a → AOk 4 2 a) (o3 : ∀ a, P3 a → AOk 4 3 a)
    (q0 : P0 (endA loss 0 (tickA (absN (x.nd 0))) t)) (q1 : P1 (endA loss 1 (tickA (absN (x.nd 1))) t)) (q2 : P2 (endA loss 2 (tickA (absN (x.nd 2))) t)) (q3 : P3 (endA loss 3 (tickA (absN (x.nd 3))) t)) :
    Adv (cF keep loss) d t K x ∧ F4 P0 P1 P2 P3 (noEvW (slot5W (cF keep loss) d (cF keep loss).nodes t x)) := by
  have h := E.sim
  have e : ∀ i, i < 4 → _ := fun i hi => k.abs h (show i < (cF keep loss).nodes from hi)
  exact adv E.g h E.K0 o0 o1 o2 o3 (by rw [(e 0 (by decide)).1]; exact q0) (by rw [(e 1 (by decide)).1]; exact q1) (by rw [(e 2 (by decide)).1]; exact q2) (by rw [(e 3 (by decide)).1]; exact q3) (fun i hi => (e i hi).2)
theorem quiet (k : Snds (cF keep loss) d t x j) (hk : (nxF (cF keep loss) d t x j).kind = 3) : (vW (cF keep loss) d t x j).getD [] = [] := k.beacon_w (show 4 ≤ 16 by decide) hk

/- all but node 0 are out of time -/
theorem stepA (E : Env keep loss L d t K x) (hL : L = 9) (f : F4 Zs (Us t) (Us t) (Us t) x) (hc : t < loss ∨ (t % 16 ≠ 0 ∧ t % 16 ≠ 4)) :
    Adv (cF keep loss) d t K x ∧ F4 Zs (Us (t + 1)) (Us (t + 1)) (Us (t + 1)) (noEvW (slot5W (cF keep loss) d (cF keep loss).nodes t x)) := by
  subst hL
  have ht := E.t0
  have hA := f.ok (fun _ h => h.ok) (fun _ h => h.ok (by decide)) (fun _ h => h.ok (by decide)) (fun _ h => h.ok (by decide))
  by_cases h4 : t % 4 = 0
  · have k := E.send hA (j := 0) (by decide) h4 f.a0.1
    refine adv_q E k (quiet k (kd_root k)) (fun _ h => h.ok) (fun _ h => h.ok (by decide)) (fun _ h => h.ok (by decide)) (fun _ h => h.ok (by decide)) ?_ ?_ ?_ ?_
    · rw [if_pos rfl]; exact f.a0.next
    · rw [if_neg (by decide)]
      have e : heardA (cF keep loss) d t x 0 1 = tickA (absN (x.nd 1)) := by
        by_cases h : t < loss
        · exact hd_deaf f.a1 h
        · exact hd_far E.D (by decide) (by decide) f.a1 f.a0.1 (by omega)
      rw [e]; exact f.a1.next 1
    · rw [if_neg (by decide)]
      have e : heardA (cF keep loss) d t x 0 2 = tickA (absN (x.nd 2)) := by
        by_cases h : t < loss
        · exact hd_deaf f.a2 h
        · exact hd_far E.D (by decide) (by decide) f.a2 f.a0.1 (by omega)
      rw [e]; exact f.a2.next 2
    · rw [if_neg (by decide), hd_no E.D (by decide) (by decide) (by decide)]; exact f.a3.next 3
  · have k : Mute (cF keep loss) d t x := fun q hq e => by
      have hq : q < 4 := hq
      have e2 : t % 4 = (q : Int) := e.2
      match q, hq with
      | 0, _ => exact h4 e2
      | 1, _ => have := f.a1.1; have e1 : (absN (x.nd 1)).syn = true := e.1; rw [this] at e1; cases e1
      | 2, _ => have := f.a2.1; have e1 : (absN (x.nd 2)).syn = true := e.1; rw [this] at e1; cases e1
      | 3, _ => have := f.a3.1; have e1 : (absN (x.nd 3)).syn = true := e.1; rw [this] at e1; cases e1
      | n + 4, h => omega
    exact adv_m E k (fun _ h => h.ok) (fun _ h => h.ok (by decide)) (fun _ h => h.ok (by decide)) (fun _ h => h.ok (by decide)) f.a0.next (f.a1.next 1) (f.a2.next 2) (f.a3.next 3)
theorem stepA2 (E : Env keep loss L d t K x) (hL : L = 9) (f : F4 Zs (Us t) (Us t) (Us t) x) (hc : loss ≤ t) (h16 : t % 16 = 0 ∨ t % 16 = 4) :
    Adv (cF keep loss) d t K x ∧ F4 Zs (Ms (t + 1)) (Ms (t + 1)) (Us (t + 1)) (noEvW (slot5W (cF keep loss) d (cF keep loss).nodes t x)) := by
  subst hL
  have ht := E.t0
  have hl := E.hl
  have hA := f.ok (fun _ h => h.ok) (fun _ h => h.ok (by decide)) (fun _ h => h.ok (by decide)) (fun _ h => h.ok (by decide))
  have k := E.send hA (j := 0) (by decide) (by show t % 4 = 0; omega) f.a0.1
  refine adv_q E k (quiet k (kd_root k)) (fun _ h => h.ok) (fun _ h => h.ok (by decide)) (fun _ h => h.ok (by decide)) (fun _ h => h.ok (by decide)) ?_ ?_ ?_ ?_
  · rw [if_pos rfl]; exact f.a0.next
  · rw [if_neg (by decide), hd_un E.D (by decide) (by decide) (by decide) f.a1 f.a0.1 (by omega), kd_root k, rank_root f.a0]
    exact f.a1.adopt0 hl.1 (by decide) hc
  · rw [if_neg (by decide), hd_un E.D (by decide) (by decide) (by decide) f.a2 f.a0.1 (by omega), kd_root k, rank_root f.a0]
    exact f.a2.adopt0 hl.1 (by decide) hc
  · rw [if_neg (by decide), hd_no E.D (by decide) (by decide) (by decide)]; exact f.a3.next 3
theorem Ms.due {c : Cfg} {a : AN} (h : Ms t a) (hk : 5 ≤ c.keep) (h4 : t % 4 = 1 ∨ t % 4 = 2) : ∀ y, a.k = some y → y < c.keep := by
  obtain ⟨h1, q, y, h2, h3, h5, h6, h7, h8⟩ := h
  intro z hz
  rw [h3] at hz; cases hz
  omega
/- .. nodes 1, 2 are in time -/
theorem stepB (E : Env keep loss L d t K x) (hL : L = 9) (f : F4 Zs (Ms t) (Ms t) (Us t) x) (h16 : t % 16 = 1 ∨ t % 16 = 5) :
    Adv (cF keep loss) d t K x ∧ F4 Zs (Ms (t + 1)) (Ms (t + 1)) (Us (t + 1)) (noEvW (slot5W (cF keep loss) d (cF keep loss).nodes t x)) := by
  subst hL
  have ht := E.t0
  have hl := E.hl
  have hA := f.ok (fun _ h => h.ok) (fun _ h => h.ok (by decide)) (fun _ h => h.ok (by decide)) (fun _ h => h.ok (by decide))
  have k := E.send hA (j := 1) (by decide) (by show t % 4 = 1; omega) f.a1.1
  refine adv_q E k (quiet k (kd_beacon k (f.a1.due E.hk.1 (by omega)))) (fun _ h => h.ok) (fun _ h => h.ok (by decide)) (fun _ h => h.ok (by decide)) (fun _ h => h.ok (by decide)) ?_ ?_ ?_ ?_
  · rw [if_neg (by decide), hd_root f.a0]; exact f.a0.next
  · rw [if_pos rfl]; exact f.a1.next hl.1 (by decide) (by omega)
  · rw [if_neg (by decide), hd_no E.D (by decide) (by decide) (by decide)]; exact f.a2.next hl.1 (by decide) (by omega)
  · rw [if_neg (by decide), hd_far E.D (by decide) (by decide) f.a3 f.a1.1 (by omega)]; exact f.a3.next 3
theorem stepB2 (E : Env keep loss L d t K x) (hL : L = 9) (f : F4 Zs (Ms t) (Ms t) (Us t) x) (hc : loss ≤ t) (h16 : t % 16 = 2 ∨ t % 16 = 6) :
    Adv (cF keep loss) d t K x ∧ F4 Zs (Ms (t + 1)) (Ms (t + 1)) (Vs (t + 1)) (noEvW (slot5W (cF keep loss) d (cF keep loss).nodes t x)) := by
  subst hL
  have ht := E.t0
  have hl := E.hl
  have hA := f.ok (fun _ h => h.ok) (fun _ h => h.ok (by decide)) (fun _ h => h.ok (by decide)) (fun _ h => h.ok (by decide))
  have k := E.send hA (j := 2) (by decide) (by show t % 4 = 2; omega) f.a2.1
  have kd := kd_beacon k (f.a2.due E.hk.1 (by omega))
  refine adv_q E k (quiet k kd) (fun _ h => h.ok) (fun _ h => h.ok (by decide)) (fun _ h => h.ok (by decide)) (fun _ h => h.ok) ?_ ?_ ?_ ?_
  · rw [if_neg (by decide), hd_root f.a0]; exact f.a0.next
  · rw [if_neg (by decide), hd_no E.D (by decide) (by decide) (by decide)]; exact f.a1.next hl.1 (by decide) (by omega)
  · rw [if_pos rfl]; exact f.a2.next hl.1 (by decide) (by omega)
  · rw [if_neg (by decide), hd_un E.D (by decide) (by decide) (by decide) f.a3 f.a2.1 (by omega), kd, f.a2.rank (by decide)]
    exact f.a3.adopt2 hl.1 hc
end
end Go.Proofs.YtnpihllannobgaaGreatDoor
namespace Go.Proofs.YtnpihllannobgaaGreatDoor
set_option linter.unusedVariables false
set_option linter.unusedSimpArgs false

/-- node 1: in time, or it hears nobody. -/
def O1 (L : Nat) (t : Int) (a : AN) : Prop := if L = 1 then ∃ n, Us n a else Ms t a
/-- node 3. -/
def N3 (loss t : Int) (a : AN) : Prop := Vs t a ∨ ∃ h1 y, Ws loss t h1 y a
section
variable {keep loss t K n : Int} {d : Dr} {x : WM} {i j L : Nat} {P0 P1 P2 P3 : AN → Prop} {a : AN}
theorem O1.ok (h : O1 L t a) : AOk 4 1 a := by
  unfold O1 at h
  split at h
  · obtain ⟨n, h⟩ := h; exact h.ok (by decide)
  · exact h.ok (by decide)
theorem N3.ok (h : N3 loss t a) : AOk 4 3 a := by
  rcases h with h | ⟨h1, y, h⟩
  · exact h.ok
  · exact h.ok
theorem N3.syn (h : N3 loss t a) : a.syn = true := by
  rcases h with h | ⟨h1, y, h⟩
  · exact h.1
  · exact h.1
theorem N3.rank (h : N3 loss t a) : rankA 3 (tickA a) = 2 := by
  rcases h with h | ⟨h1, y, h⟩
  · exact h.rank
  · exact h.rank
theorem O1.tick (h : O1 L t a) (hl : 12 ≤ loss) (h4 : t % 4 ≠ 0) : O1 L (t + 1) (endA loss 1 (tickA a) t) := by
  unfold O1 at h ⊢
  split at h
  · rename_i e
    rw [if_pos e]
    obtain ⟨n, h⟩ := h; exact ⟨n + 1, h.next 1⟩
  · rename_i e
    rw [if_neg e]
    exact h.next hl (by decide) h4
/-- node 1 hears node 0. -/
theorem O1.root (hd : DOk L d) (h : O1 L t (absN (x.nd 1))) (hz : Zs (absN (x.nd 0))) (hl : 12 ≤ loss) (hL : L = 9 ∨ L = 1) : O1 L (t + 1) (endA loss 1 (heardA (cF keep loss) d t x 0 1) t) := by
  unfold O1 at h ⊢
  rcases hL with e | e
  · rw [if_neg (by omega)] at h ⊢
    rw [hd_syn hd (by decide) (by decide) (by subst e; decide) (by decide) h.1 hz.1, rank_root hz]
    exact h.next0 hl (by decide)
  · rw [if_pos e] at h ⊢
    obtain ⟨n, h⟩ := h
    rw [hd_no hd (by decide) (by decide) (by subst e; decide)]
    exact ⟨n + 1, h.next 1⟩
/-- .. node 3. -/
theorem O1.three (hd : DOk L d) (h : O1 L t (absN (x.nd 1))) (h3 : N3 loss t (absN (x.nd 3))) (hl : 12 ≤ loss) (hL : L = 9 ∨ L = 1) (h4 : t % 4 ≠ 0) : O1 L (t + 1) (endA loss 1 (heardA (cF keep loss) d t x 3 1) t) := by
  rcases hL with e | e
  · have h' := h
    unfold O1 at h'
    rw [if_neg (by omega)] at h'
    rw [hd_syn hd (by decide) (by decide) (by subst e; decide) (by decide) h'.1 h3.syn, h3.rank, show ((3 : Nat) : Int) = 3 from rfl, h'.same3]
    exact h.tick hl h4
  · rw [hd_no hd (by decide) (by decide) (by subst e; decide)]
    exact h.tick hl h4
theorem hears2 (hd : DOk L d) (h : Ms t (absN (x.nd 2))) (hL : L = 9 ∨ L = 1) (h3 : N3 loss t (absN (x.nd 3))) : heardA (cF keep loss) d t x 3 2 = tickA (absN (x.nd 2)) := by
  rw [hd_syn hd (by decide) (by decide) (by rcases hL with e | e <;> subst e <;> decide) (by decide) h.1 h3.syn, h3.rank, show ((3 : Nat) : Int) = 3 from rfl, h.same3]
theorem mem_beacon {c : Cfg} (k : Snds c d t x 3) (hc : c.nodes = 4) (hk : (nxF c d t x 3).kind = 4) : (nxF c d t x 3).dst = firstA (absN (x.nd 3)) := by
  rcases k.kd with e | e
  · rw [hk] at e; exact absurd e.1 (by decide)
  · exact e.2.1
/-- what is sent to a node that hears nobody. -/
theorem lost1 (E : Env keep loss 1 d t K x) (k : Snds (cF keep loss) d t x 3) (hd : (nxF (cF keep loss) d t x 3).dst = 1) : (vW (cF keep loss) d t x 3).getD [] = [] := by
  have h := E.sim
  have e := k.other 1 (show 1 < 4 by decide) (by decide)
  have eL : vL (cF keep loss) d t x 1 = [] := by
    rw [h.sL (i := 1) (show 1 < 4 by decide) k.jn k.ne (fun q hq hqj => by rw [k.other q hq hqj]), hrF E.D (by decide) (by decide)]
    rw [if_neg (by rw [show btB 1 1 3 = false from by decide]; simp)]
  have eK : vK (cF keep loss) d t x 1 = none := by
    unfold vK
    rw [eL]
    simp
  unfold vW
  rw [k.dx, hd]
  split
  · rw [show (1 : Int).toNat = 1 from rfl, eK]; rfl
  · rfl
/-- node 3's frame is answered by node 2, or by nobody. -/
theorem three (E : Env keep loss L d t K x) (hL : L = 9 ∨ L = 1) (f : F4 Zs (O1 L t) (Ms t) (N3 loss t) x) (k : Snds (cF keep loss) d t x 3) (hw : L = 9 → ∀ h1 y, Ws loss t h1 y (absN (x.nd 3)) → y < keep) :
    (vW (cF keep loss) d t x 3).getD [] = [] ∨ (Vs t (absN (x.nd 3)) ∧ absN (vQ (cF keep loss) d t x 3) = hearsA (tickA (absN (x.nd 3))) 2 1 t ∧ Nb (t + 1) (t + 1) (vQ (cF keep loss) d t x 3)) := by
  by_cases hk : (nxF (cF keep loss) d t x 3).kind = 3
  · exact .inl (quiet k hk)
  · have hk4 : (nxF (cF keep loss) d t x 3).kind = 4 := by
      rcases k.kd with e | e
      · exact absurd e.1 hk
      · exact e.1
    have hD := mem_beacon k rfl hk4
    rcases f.a3 with h | ⟨h1, y, h⟩
    · right
      have h' := h
      obtain ⟨_, q, y, h2, _⟩ := h'
      have e2 : firstA (absN (x.nd 3)) = 2 := by unfold firstA; rw [h2]
      rw [e2] at hD
      have h2 := hears2 (keep := keep) E.D f.a2 hL f.a3
      obtain ⟨r1, r2⟩ := k.acked_abs E.sim hk4 2 hD (show 2 < 4 by decide) (by
          rw [hrF E.D (by decide) (by decide), ch_syn (i := 2) f.a2.1, ch_syn (i := 3) f.a3.syn]
          rcases hL with e | e <;> subst e <;> simp [btB]) (by rw [E.D.ak]; show bitW (atL [6, 9, 9, 6] 3) (atL [] 3) 2 = true; decide +kernel) f.a2.1 (by decide) (by rw [h2]; exact AOk.tick (f.a2.ok (by decide)))
      rw [h2, f.a2.rank (by decide)] at r1
      exact ⟨h, r1, r2⟩
    · left
      rcases hL with e | e
      · exfalso
        have hy := hw e h1 y h
        have := kd_beacon k (fun z hz => by
          obtain ⟨_, q, _, h3, _⟩ := h
          rw [h3] at hz; cases hz; exact hy)
        exact hk this
      · subst e
        obtain ⟨_, q, h2, _⟩ := h
        have e2 : firstA (absN (x.nd 3)) = 1 := by unfold firstA; rw [h2]
        rw [e2] at hD
        exact lost1 E k hD
/-- how node 3 is turned in a slot. -/
def NX3 (loss : Int) (L : Nat) (t : Int) (a b : AN) : Prop :=
  (∃ h1 y, Ws loss t h1 y a ∧ ((t < h1 + loss ∧ Ws loss (t + 1) h1 (tickK y) b) ∨ (t = h1 + loss ∧ Vs (t + 1) b)) ∧ ¬ (t % 4 = 1 ∧ L = 9)) ∨
  (Vs t a ∧ Vs (t + 1) b ∧ ¬ (t % 4 = 1 ∧ L = 9)) ∨ (∃ y, t % 4 = 1 ∧ L = 9 ∧ Ws loss (t + 1) t y b ∧ y ≤ 1)
theorem N3.tick (h : N3 loss t a) (hl : 12 ≤ loss) (h4 : t % 4 ≠ 2) (hL : ¬ (t % 4 = 1 ∧ L = 9)) : NX3 loss L t a (endA loss 3 (tickA a) t) := by
  rcases h with h | ⟨h1, y, h⟩
  · exact .inr (.inl ⟨h, h.next hl h4, hL⟩)
  · exact .inl ⟨h1, y, h, h.next hl h4, hL⟩
theorem N3.two (h : N3 loss t a) (hl : 12 ≤ loss) (h4 : t % 4 = 2) : NX3 loss L t a (endA loss 3 (hearsA (tickA a) 2 1 t) t) := by
  have hL : ¬ (t % 4 = 1 ∧ L = 9) := by omega
  rcases h with h | ⟨h1, y, h⟩
  · exact .inr (.inl ⟨h, h.next2 hl, hL⟩)
  · exact .inl ⟨h1, y, h, h.next2 hl, hL⟩
theorem N3.one (h : N3 loss t a) (hl : 12 ≤ loss) (h4 : t % 4 = 1) (hL : L = 9) : NX3 loss L t a (endA loss 3 (hearsA (tickA a) 1 1 t) t) := by
  rcases h with h | ⟨h1, y, h⟩
  · obtain ⟨y, k1, k2⟩ := h.next1 hl h4
    exact .inr (.inr ⟨y, h4, hL, k1, k2⟩)
  · obtain ⟨y, k1, k2⟩ := h.next1 hl h4
    exact .inr (.inr ⟨y, h4, hL, k1, k2⟩)
theorem NX3.ok {b : AN} (h : NX3 loss L t a b) : N3 loss (t + 1) b := by
  rcases h with ⟨h1, y, _, (⟨_, h⟩ | ⟨_, h⟩), _⟩ | ⟨_, h, _⟩ | ⟨y, _, _, h, _⟩
  · exact .inr ⟨h1, _, h⟩
  · exact .inl h
  · exact .inl h
  · exact .inr ⟨t, y, h⟩
/-- a slot. -/
theorem stepN (E : Env keep loss L d t K x) (hL : L = 9 ∨ L = 1) (f : F4 Zs (O1 L t) (Ms t) (N3 loss t) x) (hw : L = 9 → t % 4 = 3 → ∀ h1 y, Ws loss t h1 y (absN (x.nd 3)) → y < keep) :
    Adv (cF keep loss) d t K x ∧ F4 Zs (O1 L (t + 1)) (Ms (t + 1)) (fun b => NX3 loss L t (absN (x.nd 3)) b) (noEvW (slot5W (cF keep loss) d (cF keep loss).nodes t x)) := by
  have ht := E.t0
  have hl := E.hl.1
  have hA := f.ok (fun _ h => h.ok) (fun _ h => h.ok) (fun _ h => h.ok (by decide)) (fun _ h => h.ok)
  have o0 : ∀ a, Zs a → AOk 4 0 a := fun _ h => h.ok
  have o1 : ∀ a, O1 L (t + 1) a → AOk 4 1 a := fun _ h => h.ok
  have o2 : ∀ a, Ms (t + 1) a → AOk 4 2 a := fun _ h => h.ok (by decide)
  have o3 : ∀ b, NX3 loss L t (absN (x.nd 3)) b → AOk 4 3 b := fun _ h => h.ok.ok
  have hm : t % 4 = 0 ∨ t % 4 = 1 ∨ t % 4 = 2 ∨ t % 4 = 3 := by omega
  rcases hm with h4 | h4 | h4 | h4
  · have k := E.send hA (j := 0) (by decide) h4 f.a0.1
    refine adv_q E k (quiet k (kd_root k)) o0 o1 o2 o3 ?_ ?_ ?_ ?_
    · rw [if_pos rfl]; exact f.a0.next
    · rw [if_neg (by decide)]; exact f.a1.root E.D f.a0 hl hL
    · rw [if_neg (by decide), hd_syn E.D (by decide) (by decide) (by rcases hL with e | e <;> subst e <;> decide) (by decide) f.a2.1 f.a0.1, rank_root f.a0]
      exact f.a2.next0 hl (by decide)
    · rw [if_neg (by decide), hd_no E.D (by decide) (by decide) (by rcases hL with e | e <;> subst e <;> decide)]
      exact f.a3.tick hl (by omega) (by omega)
  · rcases hL with e | e
    · have f1 := f.a1
      unfold O1 at f1
      rw [if_neg (by omega)] at f1
      have k := E.send hA (j := 1) (by decide) h4 f1.1
      have kd := kd_beacon k (f1.due E.hk.1 (by omega))
      refine adv_q E k (quiet k kd) o0 o1 o2 o3 ?_ ?_ ?_ ?_
      · rw [if_neg (by decide), hd_root f.a0]; exact f.a0.next
      · rw [if_pos rfl]; exact f.a1.tick hl (by omega)
      · rw [if_neg (by decide), hd_no E.D (by decide) (by decide) (by subst e; decide)]; exact f.a2.next hl (by decide) (by omega)
      · rw [if_neg (by decide), hd_syn E.D (by decide) (by decide) (by subst e; decide) (by decide) f.a3.syn f1.1, f1.rank (by decide)]
        exact f.a3.one hl h4 e
    · have f1 := f.a1
      unfold O1 at f1
      rw [if_pos e] at f1
      obtain ⟨n, f1⟩ := f1
      have k : Mute (cF keep loss) d t x := fun q hq e => by
        have hq : q < 4 := hq
        have e2 : t % 4 = (q : Int) := e.2
        have hq1 : q = 1 := by omega
        subst hq1
        have e1 : (absN (x.nd 1)).syn = true := e.1
        rw [f1.1] at e1; cases e1
      exact adv_m E k o0 o1 o2 o3 f.a0.next (f.a1.tick hl (by omega)) (f.a2.next hl (by decide) (by omega)) (f.a3.tick hl (by omega) (by omega))
  · have k := E.send hA (j := 2) (by decide) h4 f.a2.1
    have kd := kd_beacon k (f.a2.due E.hk.1 (by omega))
    refine adv_q E k (quiet k kd) o0 o1 o2 o3 ?_ ?_ ?_ ?_
    · rw [if_neg (by decide), hd_root f.a0]; exact f.a0.next
    · rw [if_neg (by decide), hd_no E.D (by decide) (by decide) (by rcases hL with e | e <;> subst e <;> decide)]; exact f.a1.tick hl (by omega)
    · rw [if_pos rfl]; exact f.a2.next hl (by decide) (by omega)
    · rw [if_neg (by decide), hd_syn E.D (by decide) (by decide) (by rcases hL with e | e <;> subst e <;> decide) (by decide) f.a3.syn f.a2.1, f.a2.rank (by decide)]
      exact f.a3.two hl h4
  · have k := E.send hA (j := 3) (by decide) h4 f.a3.syn
    have q1 := f.a1.three (keep := keep) E.D f.a3 hl hL (by omega)
    have q2 : Ms (t + 1) (endA loss 2 (heardA (cF keep loss) d t x 3 2) t) := by
      rw [hears2 E.D f.a2 hL f.a3]; exact f.a2.next hl (by decide) (by omega)
    rcases three E hL f k (fun e => hw e h4) with hq | ⟨hv, hq, hnb⟩
    · refine adv_q E k hq o0 o1 o2 o3 ?_ ?_ ?_ ?_
      · rw [if_neg (by decide), hd_root f.a0]; exact f.a0.next
      · rw [if_neg (by decide)]; exact q1
      · rw [if_neg (by decide)]; exact q2
      · rw [if_pos rfl]; exact f.a3.tick hl (by omega) (by omega)
    · have h := E.sim
      have e : ∀ i, i < 4 → i ≠ 3 → _ := fun i hi hi3 => k.other_abs h (show i < (cF keep loss).nodes from hi) hi3
      refine adv E.g h E.K0 o0 o1 o2 o3 ?_ ?_ ?_ ?_ (fun i hi => ?_)
      · rw [(e 0 (by decide) (by decide)).1, hd_root f.a0]; exact f.a0.next
      · rw [(e 1 (by decide) (by decide)).1]; exact q1
      · rw [(e 2 (by decide) (by decide)).1]; exact q2
      · rw [hq]; exact .inr (.inl ⟨hv, hv.next2 hl, by omega⟩)
      · by_cases hi3 : i = 3
        · subst hi3; exact hnb
        · exact (e i hi hi3).2
end
end Go.Proofs.YtnpihllannobgaaGreatDoor
namespace Go.Proofs.YtnpihllannobgaaGreatDoor
set_option linter.unusedVariables false
set_option linter.unusedSimpArgs false

/-- the slot in which nodes 1 and 2 take the time of node 0. -/
def Tl (loss : Int) : Int := if loss % 16 = 0 then loss else if loss % 16 ≤ 4 then loss + 4 - loss % 16 else loss + 16 - loss % 16
theorem Tl_is (loss : Int) : loss ≤ Tl loss ∧ Tl loss ≤ loss + 11 ∧ (Tl loss % 16 = 0 ∨ Tl loss % 16 = 4) ∧ ∀ t, loss ≤ t → t < Tl loss → t % 16 ≠ 0 ∧ t % 16 ≠ 4 := by
  unfold Tl
  split
  · exact ⟨by omega, by omega, by omega, fun t h1 h2 => by omega⟩
  · split
    · exact ⟨by omega, by omega, by omega, fun t h1 h2 => by omega⟩
    · exact ⟨by omega, by omega, by omega, fun t h1 h2 => by omega⟩
/-- node 3 while nobody is silent. -/
def N39 (loss t : Int) (a : AN) : Prop := (Vs t a ∧ Tl loss + 3 ≤ t ∧ t ≤ Tl loss + 5) ∨ ∃ h1 y, Ws loss t h1 y a ∧ t - 1 - (t + 2) % 4 ≤ h1 ∧ y ≤ t - h1
def N31 (loss R t : Int) (a : AN) : Prop := Vs t a ∨ ∃ h1 y, Ws loss t h1 y a ∧ h1 < R
def Inv9 (loss t : Int) (x : WM) : Prop :=
  (t ≤ Tl loss ∧ F4 Zs (Us t) (Us t) (Us t) x) ∨ ((t = Tl loss + 1 ∨ t = Tl loss + 2) ∧ F4 Zs (Ms t) (Ms t) (Us t) x) ∨ F4 Zs (O1 9 t) (Ms t) (N39 loss t) x
def Inv1 (loss R t : Int) (x : WM) : Prop := F4 Zs (O1 1 t) (Ms t) (N31 loss R t) x
section
variable {keep loss t K n R : Int} {d : Dr} {x : WM} {i j L : Nat} {P0 P1 P2 P3 Q3 : AN → Prop} {a b : AN}
theorem F4.mono3 (h : F4 P0 P1 P2 P3 x) (hq : ∀ a, P3 a → Q3 a) : F4 P0 P1 P2 Q3 x := ⟨h.a0, h.a1, h.a2, hq _ h.a3⟩
theorem N39.n3 (h : N39 loss t a) : N3 loss t a := by
  rcases h with ⟨h, _⟩ | ⟨h1, y, h, _⟩
  · exact .inl h
  · exact .inr ⟨h1, y, h⟩
theorem N31.n3 (h : N31 loss R t a) : N3 loss t a := by
  rcases h with h | ⟨h1, y, h, _⟩
  · exact .inl h
  · exact .inr ⟨h1, y, h⟩
theorem Ws.same {h1 y h1' y' : Int} (h : Ws loss t h1 y a) (k : Ws loss t h1' y' a) : h1' = h1 ∧ y' = y := by
  obtain ⟨_, q, h2, h3, _⟩ := h
  obtain ⟨_, q', h2', h3', _⟩ := k
  rw [h2] at h2'
  rw [h3] at h3'
  simp only [Option.some.injEq, Prod.mk.injEq, List.cons.injEq, Pa.mk.injEq] at h2' h3'
  exact ⟨h2'.2.1.2.2.symm, h3'.symm⟩
theorem Ws.notV {h1 y : Int} (h : Ws loss t h1 y a) (k : Vs t a) : False := by
  obtain ⟨_, q, h2, _⟩ := h
  obtain ⟨_, q', y', h2', _⟩ := k
  rw [h2] at h2'
  simp at h2'
theorem N39.due (h : N39 loss t a) (hk : 5 ≤ keep) (h4 : t % 4 = 3) : ∀ h1 y, Ws loss t h1 y a → y < keep := by
  intro h1 y hw
  rcases h with ⟨h, _⟩ | ⟨h1', y', h, k1, k2⟩
  · exact (hw.notV h).elim
  · obtain ⟨rfl, rfl⟩ := hw.same h
    omega
theorem N39.next (h : N39 loss t a) (hl : 12 ≤ loss) (k : NX3 loss 9 t a b) : N39 loss (t + 1) b := by
  obtain ⟨_, _, hT, _⟩ := Tl_is loss
  rcases k with ⟨h1, y, hw, k, h4⟩ | ⟨hv, k, h4⟩ | ⟨y, h4, _, k, ky⟩
  · rcases h with ⟨h, _⟩ | ⟨h1', y', h, k1, k2⟩
    · exact (hw.notV h).elim
    · obtain ⟨rfl, rfl⟩ := hw.same h
      have hm : t % 4 ≠ 1 := fun e => h4 ⟨e, rfl⟩
      have := tickK_le y'
      rcases k with ⟨_, k⟩ | ⟨e, _⟩
      · exact .inr ⟨h1', _, k, by omega, by omega⟩
      · exfalso; omega
  · rcases h with ⟨h, a1, a2⟩ | ⟨h1', y', h, _⟩
    · have hm : t % 4 ≠ 1 := fun e => h4 ⟨e, rfl⟩
      exact .inl ⟨k, by omega, by omega⟩
    · exact (h.notV hv).elim
  · exact .inr ⟨t, y, k, by omega, by omega⟩
theorem N31.next (h : N31 loss R t a) (k : NX3 loss 1 t a b) : N31 loss R (t + 1) b := by
  rcases k with ⟨h1, y, hw, k, h4⟩ | ⟨hv, k, h4⟩ | ⟨y, h4, e, k, ky⟩
  · rcases h with h | ⟨h1', y', h, k1⟩
    · exact (hw.notV h).elim
    · obtain ⟨rfl, rfl⟩ := hw.same h
      rcases k with ⟨_, k⟩ | ⟨_, k⟩
      · exact .inr ⟨h1', _, k, k1⟩
      · exact .inl k
  · exact .inl k
  · cases e
theorem inv9_step (E : Env keep loss 9 d t K x) (h : Inv9 loss t x) : Adv (cF keep loss) d t K x ∧ Inv9 loss (t + 1) (noEvW (slot5W (cF keep loss) d (cF keep loss).nodes t x)) := by
  obtain ⟨T1, T2, T3, T4⟩ := Tl_is loss
  rcases h with ⟨h, f⟩ | ⟨h, f⟩ | f
  · by_cases e : t = Tl loss
    · obtain ⟨k1, k2⟩ := stepA2 E rfl f (by omega) (by rw [e]; exact T3)
      exact ⟨k1, .inr (.inl ⟨.inl (by omega), k2⟩)⟩
    · obtain ⟨k1, k2⟩ := stepA E rfl f (by
        by_cases ht : t < loss
        · exact .inl ht
        · exact .inr (T4 t (by omega) (by omega)))
      exact ⟨k1, .inl ⟨by omega, k2⟩⟩
  · rcases h with e | e
    · obtain ⟨k1, k2⟩ := stepB E rfl f (by omega)
      exact ⟨k1, .inr (.inl ⟨.inr (by omega), k2⟩)⟩
    · obtain ⟨k1, k2⟩ := stepB2 E rfl f (by omega) (by omega)
      refine ⟨k1, .inr (.inr ⟨k2.a0, ?_, k2.a2, .inl ⟨k2.a3, by omega, by omega⟩⟩)⟩
      unfold O1; rw [if_neg (by decide)]; exact k2.a1
  · obtain ⟨k1, k2⟩ := stepN E (.inl rfl) (f.mono3 (fun _ h => h.n3)) (fun _ h4 => f.a3.due E.hk.1 h4)
    exact ⟨k1, .inr (.inr (k2.mono3 (fun _ k => f.a3.next E.hl.1 k)))⟩
theorem inv1_step (E : Env keep loss 1 d t K x) (h : Inv1 loss R t x) : Adv (cF keep loss) d t K x ∧ Inv1 loss R (t + 1) (noEvW (slot5W (cF keep loss) d (cF keep loss).nodes t x)) := by
  obtain ⟨k1, k2⟩ := stepN E (.inr rfl) (h.mono3 (fun _ h => h.n3)) (fun e => by cases e)
  exact ⟨k1, k2.mono3 (fun _ k => h.a3.next k)⟩
/- the first slot -/
theorem inv9_new (hk : 5 ≤ keep ∧ keep ≤ 44) (hl : 12 ≤ loss ∧ loss ≤ 71) : Good (cF keep loss) 0 0 (newW (cF keep loss)) ∧ Inv9 loss 0 (newW (cF keep loss)) := by
  have e : ∀ i, i < 4 → (newW (cF keep loss)).nd i = newN i := fun i hi => newW_nd (cF keep loss) i hi
  have hZ : Zs (absN (newN 0)) := ⟨rfl, rfl⟩
  have hU : ∀ i, i ≠ 0 → Us 0 (absN (newN i)) := fun i hi => ⟨by show ((i : Int) == 0) = false; simp; exact hi, rfl, rfl, rfl⟩
  have f : F4 Zs (Us 0) (Us 0) (Us 0) (newW (cF keep loss)) := ⟨by rw [e 0 (by decide)]; exact hZ, by rw [e 1 (by decide)]; exact hU 1 (by decide), by rw [e 2 (by decide)]; exact hU 2 (by decide), by rw [e 3 (by decide)]; exact hU 3 (by decide)⟩
  refine ⟨⟨by simp [newW], fun i hi => by rw [e i hi]; exact nb_new i, fun i hi => by rw [e i hi]; rfl, ?_, ?_, rfl⟩, .inl ⟨by have := (Tl_is loss).1; omega, f⟩⟩
  · exact f.ok (fun _ h => h.ok) (fun _ h => h.ok (by decide)) (fun _ h => h.ok (by decide)) (fun _ h => h.ok (by decide))
  · refine ⟨by simp [newW], fun z hz => ?_⟩
    have hz : z ∈ ([0, -1, -1, -1] : List Int) := hz
    simp at hz
    omega
/- .. behind them all -/
theorem inv9_end (hl : 12 ≤ loss ∧ loss ≤ 71) (h : Inv9 loss (loss + 60) x) : (x.nd 3).synced = true ∧ ∃ R h1 h2, (x.nd 3).p = some (R, [⟨1, 1, h1⟩, ⟨1, 2, h2⟩]) := by
  obtain ⟨T1, T2, T3, T4⟩ := Tl_is loss
  rcases h with ⟨h, f⟩ | ⟨h, f⟩ | f
  · omega
  · omega
  · rcases f.a3 with ⟨_, _, h⟩ | ⟨h1, y, ⟨hs, h2, hp, _⟩, _⟩
    · omega
    · exact ⟨hs, 2, h1, h2, hp⟩
theorem inv1_end (h : Inv1 loss R t x) (ht : R + loss ≤ t) : (x.nd 3).synced = true ∧ ∃ R h2, (x.nd 3).p = some (R, [⟨1, 2, h2⟩]) := by
  rcases h.a3 with ⟨hs, h2, y, hp, _⟩ | ⟨h1, y, ⟨_, q, _, _, _, _, h7, _⟩, h8⟩
  · exact ⟨hs, 2, h2, hp⟩
  · omega
/- node 1 begins anew -/
theorem reboot_nd (c : Cfg) (x : WM) (hn : 1 < x.nodes.length) (k : Nat) : (rebootW c 1 x).nd k = if k = 1 then rebootN 1 (x.nd 1) else x.nd k := by
  have e : (rebootW c 1 x).nd k = (x.put 1 (rebootN 1 (x.nd 1))).nd k := by
    unfold rebootW
    split
    · rfl
    · rfl
  rw [e, put_nd x 1 k _ hn]
theorem inv_reboot (hk : 5 ≤ keep ∧ keep ≤ 44) (hl : 12 ≤ loss ∧ loss ≤ 71) (hK : 0 ≤ K) (ht : 0 ≤ t ∧ t ≤ 400) (g : Good (cF keep loss) t K x) (h : Inv9 loss t x) (he : t = loss + 60) :
    Good (cF keep loss) t K (noEvW (rebootW (cF keep loss) 1 x)) ∧ Inv1 loss t t (noEvW (rebootW (cF keep loss) 1 x)) := by
  obtain ⟨T1, T2, T3, T4⟩ := Tl_is loss
  have hn : x.nodes.length = 4 := g.hn
  have e : ∀ k, (noEvW (rebootW (cF keep loss) 1 x)).nd k = if k = 1 then rebootN 1 (x.nd 1) else x.nd k := reboot_nd _ x (by omega)
  have hU : Us 0 (absN (rebootN 1 (x.nd 1))) := ⟨rfl, rfl, rfl, rfl⟩
  have f : F4 Zs (O1 1 t) (Ms t) (N31 loss t t) (noEvW (rebootW (cF keep loss) 1 x)) := by
    rcases h with ⟨h, f⟩ | ⟨h, f⟩ | f
    · omega
    · omega
    · refine ⟨by rw [e 0, if_neg (by decide)]; exact f.a0, ?_, by rw [e 2, if_neg (by decide)]; exact f.a2, ?_⟩
      · rw [e 1, if_pos rfl]; unfold O1; rw [if_pos rfl]; exact ⟨0, hU⟩
      · rw [e 3, if_neg (by decide)]
        rcases f.a3 with ⟨h, _⟩ | ⟨h1, y, h, _⟩
        · exact .inl h
        · exact .inr ⟨h1, y, h, h.2.choose_spec.2.2.2.1⟩
  refine ⟨⟨?_, fun i hi => ?_, fun i hi => ?_, ?_, ?_, rfl⟩, f⟩
  · show (rebootW (cF keep loss) 1 x).nodes.length = 4
    unfold rebootW
    split
    · unfold WM.tells WM.put; simp [hn]
    · unfold WM.put; simp [hn]
  · rw [e i]
    split
    · rename_i e1; exact (g.nb 1 (show 1 < 4 by decide)).reboot 1 (by omega)
    · exact g.nb i hi
  · rw [e i]
    split
    · rfl
    · exact g.nev i hi
  · exact f.ok (fun _ h => h.ok) (fun _ h => h.ok) (fun _ h => h.ok (by decide)) (fun _ h => h.n3.ok)
  · show Bn 4 K (rebootW (cF keep loss) 1 x).bound
    have hb : Bn 4 K x.bound := g.bnd
    unfold rebootW
    split
    · show Bn 4 K (tellF (cF keep loss).err (x.put 1 (rebootN 1 (x.nd 1))).bound x.bound (lostE 1))
      unfold tellF lostE
      simp only []
      rw [if_neg (by decide), if_pos trivial]
      exact hb.set _ _ (by omega)
    · exact hb
end
end Go.Proofs.YtnpihllannobgaaGreatDoor
