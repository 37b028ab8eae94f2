/- A world of nodes in memory. Small methods of a world. What a world is told. No condition. -/
import Derived.Test.YtnpihllannobgaaGreatDoorG18
namespace Go.Proofs.YtnpihllannobgaaGreatDoor
set_option linter.unusedVariables false
set_option linter.unusedSimpArgs false
open Go.ChangeShapes Go.WideShapes Go.ChangeAt Go.RowKit

def VP (b : Nat) : Value := .pointer (some ⟨b, 0, none⟩)
structure WR where
  nv : Value
  hv : Value
  lv : Value
  bv : Value
  inj : Nat
  ev : Value
  bs : List Nat
def cellsW (c : Cfg) (r : WR) (asn : Int) : Array Value :=
  #[.int .i64 c.nodes, r.nv, r.hv, .int .i64 c.guard, .int .i64 c.err, .int .i64 c.keep, .int .i64 c.loss, .int .i64 c.queue, .int .i64 c.life, r.lv, .int .i64 asn, r.bv, .map (some r.inj), r.ev]
/-- the world lies in block W. -/
structure Wd (w : World) (own : Cls) (c : Cfg) (W : Nat) (r : WR) (x : WM) (asn : Int) : Prop where
  blk : w.heap[W]? = some (.cells (cellsW c r asn) 61 (0, 0))
  ob : own W = cl 16 0
  near : RV VU w own r.nv c.near
  hops : RV VI w own r.hv c.hops
  row : w.ownsRow 0 36 1 r.lv c.nodes (r.bs.map VP)
  rowo : ∀ k, r.lv.ownBlock = some k → own k = cl 16 1
  bnd : w.ownsRow 0 2 1 r.bv c.nodes (x.bound.map VI)
  bndo : ∀ k, r.bv.ownBlock = some k → own k = cl 16 2
  inj : Mp w r.inj (fun _ => none)
  injo : own r.inj = cl 16 3
  ev : Eo w own (cl 16 4) r.ev x.ev
  nl : x.nodes.length = c.nodes
  nd : ∀ i, i < c.nodes → ∃ b q, r.bs[i]? = some b ∧ Nd w own c i b q (x.nd i)
def WdS (own : Cls) : Nat → Prop := fun k => own k ≠ 0 ∧ own k ≤ 261
/-- .. reached from world w0. -/
structure WAt (w0 : World) (o0 : Cls) (c : Cfg) (W : Nat) (x : WM) (asn : Int) (w : World) (o : Cls) (r : WR) : Prop where
  wd : Wd w o c W r x asn
  z : Z w o
  ext : Ext w0 o0 o
  chg : Chg (WdS o0) w0 w
/-- what is in the air. -/
def cellsS (p : Snd × Value) : List Value := [.int .i64 p.1.1, p.2, .int .i64 p.1.2.2]
theorem cellsS_len (p : Snd × Value) : (cellsS p).length = 3 := rfl
def Ao (w : World) (own : Cls) (v : Value) (air : List Snd) : Prop :=
  ∃ ps : List (Snd × Value), w.ownsRow 0 90 3 v ps.length (ps.flatMap cellsS) ∧ (∀ k, v.ownBlock = some k → own k = cl 16 5) ∧ (∀ p ∈ ps, BO w own p.2 p.1.2.1) ∧ air = ps.map Prod.fst
def Bk (w : World) (own : Cls) (v : Value) (back : List (Option (List Int))) : Prop :=
  ∃ vs : List Value, w.ownsRow 0 33 1 v vs.length vs ∧ (∀ k, v.ownBlock = some k → own k = cl 16 6) ∧ vs.length = back.length ∧ ∀ (i : Nat) a u, back[i]? = some a → vs[i]? = some u → AV a u w own
theorem put_nd (x : WM) (i j : Nat) (s : NSt) (h : i < x.nodes.length) : (x.put i s).nd j = if j = i then s else x.nd j := by
  unfold WM.put WM.nd
  simp only [List.getD_eq_getElem?_getD, List.getElem?_set]
  by_cases hj : j = i
  · subst hj; simp [h]
  · have hj' : ¬ i = j := fun e => hj e.symm
    rw [if_neg hj', if_neg hj]
theorem put_self (x : WM) (i : Nat) (h : i < x.nodes.length) : x.put i (x.nd i) = x := by
  unfold WM.put WM.nd
  have : x.nodes.set i (x.nodes.getD i s00) = x.nodes := by
    apply List.ext_getElem?
    intro j
    rw [List.getElem?_set]
    by_cases hj : i = j
    · subst hj; simp [h]
    · rw [if_neg hj]
  rw [this]
section
variable {w0 w w' : World} {o0 o o' : Cls} {c : Cfg} {W : Nat} {x x' : WM} {asn : Int} {r r' : WR} {S : Nat → Prop} {i b : Nat} {s s' : NSt} {q q' : NR}
theorem Wd.step (h : Wd w o c W r x asn) (e : Ext w o o') (g : Chg S w w') (hc : c.nodes ≤ 16) (hS : ∀ k, S k → 261 < o k) : Wd w' o' c W r x asn := by
  have n0 : ∀ k, o k = 0 → ¬ S k := fun k hk hs => by have := hS k hs; omega
  have nj : ∀ j, j ≤ 4 → ∀ k, o k = cl 16 j → ¬ S k := fun j hj k hk hs => by have := hS k hs; unfold cl at hk; omega
  have nm : ∀ i, i < 16 → ∀ k, NdS o i k → ¬ S k := fun i hi k hk hs => by
    obtain ⟨j, hj, hk⟩ := hk; have := hS k hs; unfold cl at hk; omega
  exact ⟨Chg.keep g h.blk (nj 0 (by omega) _ h.ob), by rw [e W (lt_of_block h.blk)]; exact h.ob, h.near.step e g n0, h.hops.step e g n0,
    own_chg h.row g (fun k hk => nj 1 (by omega) k (h.rowo k hk)), fun k hk => by rw [e k (own_inS h.row hk).2]; exact h.rowo k hk,
    own_chg h.bnd g (fun k hk => nj 2 (by omega) k (h.bndo k hk)), fun k hk => by rw [e k (own_inS h.bnd hk).2]; exact h.bndo k hk,
    h.inj.keep g (nj 3 (by omega) _ h.injo), by rw [e _ h.inj.lt]; exact h.injo,
    h.ev.step e g (fun k hk => hk.elim (n0 k) (nj 4 (by omega) k)), h.nl,
    fun i hi => by
      obtain ⟨b, q, h1, h2⟩ := h.nd i hi
      exact ⟨b, q, h1, h2.step e g n0 (nm i (by omega))⟩⟩
theorem WAt.start (h : Wd w o c W r x asn) (z : Z w o) : WAt w o c W x asn w o r := ⟨h, z, Ext.refl _ _, Chg.refl _ _⟩
theorem Chg.extW {w w1 w2 : World} {o1 o2 : Cls} (h : Chg (WdS o1) w w1) (e : Ext w o1 o2) (k : Chg (WdS o2) w1 w2) : Chg (WdS o1) w w2 :=
  ⟨k.os.trans h.os, k.tape.trans h.tape, k.output.trans h.output, Nat.le_trans h.size k.size,
   fun q hi hn => (k.block q (Nat.lt_of_lt_of_le hi h.size) (fun hh => hn (by unfold WdS at hh ⊢; rw [← e q hi]; exact hh))).trans (h.block q hi hn)⟩
theorem WAt.next (h : WAt w0 o0 c W x asn w o r) (n : Wd w' o' c W r' x' asn) (z : Z w' o') (e : Ext w o o') (g : Chg (WdS o) w w') : WAt w0 o0 c W x' asn w' o' r' :=
  ⟨n, z, h.ext.trans e h.chg.size, h.chg.extW h.ext g⟩
theorem WAt.trans {w1 : World} {o1 : Cls} {x1 : WM} {r1 : WR} (h : WAt w0 o0 c W x1 asn w1 o1 r1) (k : WAt w1 o1 c W x asn w o r) : WAt w0 o0 c W x asn w o r :=
  h.next k.wd k.z k.ext k.chg
/-- .. where new blocks may be turned, too. -/
theorem WAt.next2 (h : WAt w0 o0 c W x asn w o r) (n : Wd w' o' c W r' x' asn) (z : Z w' o') (e : Ext w o o') (g : Chg (fun k => WdS o k ∨ w0.heap.size ≤ k) w w') : WAt w0 o0 c W x' asn w' o' r' :=
  ⟨n, z, h.ext.trans e h.chg.size, ⟨g.os.trans h.chg.os, g.tape.trans h.chg.tape, g.output.trans h.chg.output, Nat.le_trans h.chg.size g.size,
   fun q hi hn => (g.block q (Nat.lt_of_lt_of_le hi h.chg.size) (fun hh => hn (by
     rcases hh with hh | hh
     · unfold WdS at hh ⊢; rw [← h.ext q hi]; exact hh
     · omega))).trans (h.chg.block q hi hn)⟩⟩
theorem WAt.other (h : WAt w0 o0 c W x asn w o r) (e : Ext w o o') (z : Z w' o') (g : Chg S w w') (hc : c.nodes ≤ 16) (hS : ∀ k, S k → 261 < o k ∧ w0.heap.size ≤ k) : WAt w0 o0 c W x asn w' o' r :=
  h.next2 (h.wd.step e g hc (fun k hk => (hS k hk).1)) z e (g.mono (fun k _ hk => .inr (hS k hk).2))
theorem WAt.kept (h : WAt w0 o0 c W x asn w o r) (hc : c.nodes ≤ 16) (g : Chg (fun _ => False) w w') : WAt w0 o0 c W x asn w' o r :=
  h.other (Ext.refl _ _) (h.z.more g.size) g hc (fun _ e => e.elim)
theorem WAt.cell (h : WAt w0 o0 c W x asn w o r) (k : Nat) : w.cell? ⟨W, k, none⟩ = (cellsW c r asn)[k]? := by rw [cell_of_block h.wd.blk]
theorem WAt.f (h : WAt w0 o0 c W x asn w o r) (k : Nat) : w.frozen? ⟨W, k, none⟩ = false := frozen_of_block h.wd.blk k
/-- where its nodes lie. -/
theorem WAt.rowval (h : WAt w0 o0 c W x asn w o r) (hn : 0 < c.nodes) : ∃ g cap, r.lv = .slice (some ⟨g, 0, none⟩) c.nodes cap ∧ ∀ i b, r.bs[i]? = some b → w.cell? ⟨g, i, none⟩ = some (VP b) := by
  obtain ⟨g, cap, cur, e, _⟩ := own_pos h.wd.row hn
  refine ⟨g, cap, e, fun i b hb => ?_⟩
  have hrow := h.wd.row
  rw [e] at hrow
  exact own_cell hrow i _ (by rw [List.getElem?_map, hb]; rfl)
theorem WAt.get (h : WAt w0 o0 c W x asn w o r) (i : Nat) (hi : i < c.nodes) : ∃ b q, r.bs[i]? = some b ∧ NAt w o c i b (x.nd i) w o q := by
  obtain ⟨b, q, h1, h2⟩ := h.wd.nd i hi
  exact ⟨b, q, h1, NAt.start h2 h.z⟩
/-- node i is turned. -/
theorem WAt.node (h : WAt w0 o0 c W x asn w o r) (hc : c.nodes ≤ 16) (hi : i < c.nodes) (hb : r.bs[i]? = some b) (k : NAt w o c i b s' w' o' q') : WAt w0 o0 c W (x.put i s') asn w' o' r := by
  have hd := h.wd
  have n0 : ∀ k, o k = 0 → ¬ NdS o i k := fun k hk hs => by obtain ⟨j, hj, hs⟩ := hs; rw [hk] at hs; exact cl_ne0 i j hs.symm
  have nj : ∀ j, j ≤ 4 → ∀ k, o k = cl 16 j → ¬ NdS o i k := fun j hj k hk hs => by
    obtain ⟨m, hm, hs⟩ := hs; have := (cl_inj (hk.symm.trans hs) (by omega) (by omega)).1; omega
  have nm : ∀ m, m ≠ i → ∀ k, NdS o m k → ¬ NdS o i k := fun m hm k hk hs => by
    obtain ⟨j1, hj1, hk⟩ := hk; obtain ⟨j2, hj2, hs⟩ := hs; exact hm (cl_inj (hk.symm.trans hs) (by omega) (by omega)).1
  have e := k.ext
  have g := k.chg
  refine h.next ⟨Chg.keep g hd.blk (nj 0 (by omega) _ hd.ob), by rw [e W (lt_of_block hd.blk)]; exact hd.ob, hd.near.step e g n0, hd.hops.step e g n0,
    own_chg hd.row g (fun k hk => nj 1 (by omega) k (hd.rowo k hk)), fun k hk => by rw [e k (own_inS hd.row hk).2]; exact hd.rowo k hk,
    own_chg hd.bnd g (fun k hk => nj 2 (by omega) k (hd.bndo k hk)), fun k hk => by rw [e k (own_inS hd.bnd hk).2]; exact hd.bndo k hk,
    hd.inj.keep g (nj 3 (by omega) _ hd.injo), by rw [e _ hd.inj.lt]; exact hd.injo,
    hd.ev.step e g (fun k hk => hk.elim (n0 k) (nj 4 (by omega) k)), by unfold WM.put; simp [hd.nl], fun j hjn => ?_⟩ k.z e (g.mono (fun k _ hk => by obtain ⟨m, hm, hk⟩ := hk; unfold WdS; rw [hk]; exact ⟨cl_ne0 i m, by unfold cl; omega⟩))
  rw [put_nd x i j s' (by rw [hd.nl]; exact hi)]
  by_cases hj : j = i
  · subst hj
    rw [if_pos rfl]
    exact ⟨b, q', hb, k.nd⟩
  · rw [if_neg hj]
    obtain ⟨b2, q2, h1, h2⟩ := hd.nd j hjn
    exact ⟨b2, q2, h1, h2.step e g n0 (nm j hj)⟩
theorem Ao.step {v : Value} {air : List Snd} (h : Ao w o v air) (e : Ext w o o') (g : Chg S w w') (n0 : Off o (cl 16 5) S) : Ao w' o' v air := by
  obtain ⟨ps, h1, h2, h3, h4⟩ := h
  exact ⟨ps, own_chg h1 g (fun k hk => n0 k (.inr (h2 k hk))), fun k hk => by rw [e k (own_inS h1 hk).2]; exact h2 k hk, fun p hp => (h3 p hp).step e g n0.zero, h4⟩
theorem AV.step {a : Option (List Int)} {v : Value} (h : AV a v w o) (e : Ext w o o') (g : Chg S w w') (n0 : ∀ k, o k = 0 → ¬ S k) : AV a v w' o' := by
  cases a with
  | none => exact h
  | some l => exact BO.step h e g n0
theorem Bk.step {v : Value} {l : List (Option (List Int))} (h : Bk w o v l) (e : Ext w o o') (g : Chg S w w') (n0 : Off o (cl 16 6) S) : Bk w' o' v l := by
  obtain ⟨vs, h1, h2, h3, h4⟩ := h
  exact ⟨vs, own_chg h1 g (fun k hk => n0 k (.inr (h2 k hk))), fun k hk => by rw [e k (own_inS h1 hk).2]; exact h2 k hk, h3, fun i a u ha hu => (h4 i a u ha hu).step e g n0.zero⟩
theorem WdS.off (j : Nat) (hj : 5 ≤ j) : Off o (cl 16 j) (WdS o) := fun k hk hs => by
  rcases hk with hk | hk
  · exact hs.1 hk
  · have := hs.2; rw [hk] at this; unfold cl at this; omega
theorem WAt.air (h : WAt w0 o0 c W x asn w o r) {v : Value} {l : List Snd} (a : Ao w0 o0 v l) : Ao w o v l := a.step h.ext h.chg (WdS.off 5 (by omega))
theorem WAt.bck (h : WAt w0 o0 c W x asn w o r) {v : Value} {l : List (Option (List Int))} (a : Bk w0 o0 v l) : Bk w o v l := a.step h.ext h.chg (WdS.off 6 (by omega))
/-- the blocks of node i, and those of the world but the air's. -/
theorem off_nd (i : Nat) (hi : i < 16) (j : Nat) (hj : 5 ≤ j) : Off o (cl 16 j) (NdS o i) := fun k hk hs => by
  obtain ⟨m, hm, hs⟩ := hs
  rcases hk with hk | hk
  · rw [hk] at hs; exact cl_ne0 i m hs.symm
  · rw [hk] at hs; unfold cl at hs; omega
end
end Go.Proofs.YtnpihllannobgaaGreatDoor
namespace Go.Proofs.YtnpihllannobgaaGreatDoor
set_option linter.unusedVariables false
set_option linter.unusedSimpArgs false
open Go.ChangeShapes Go.WideShapes Go.ChangeAt Go.RowKit

section
variable {w0 w w' : World} {o0 o o' : Cls} {c : Cfg} {W : Nat} {x x' : WM} {asn : Int} {r r' : WR}
theorem at54_any (v : Value) (L : List Int) (i : Nat) (hv : RV VI w o v L) : Calls Tryz.prog 54 #[v, .int .i64 i] w (PV0 (.int .i64 (atL L i)) w) := by
  obtain ⟨A, cap, rfl, hro, _⟩ := hv
  obtain ⟨n, hn⟩ : ∃ n, n = L.length := ⟨_, rfl⟩
  rw [← hn] at hro ⊢
  by_cases hlt : i < n
  · obtain ⟨p, z, rfl, hz, hcell⟩ := hro.at hlt
    have e : atL L i = z := by unfold atL; rw [List.getD_eq_getElem?_getD, hz]; rfl
    rw [e]
    have b1 : decide ((n : Int) ≤ (i : Int)) = false := by simp; omega
    have i1 : (i : Int) < (n : Int) := by omega
    unfold VI at hcell
    clear hro hz e hn
    go_enter Tryz.func54, Tryz.ntmps54
    go_wp2_with fail
    go_ret
    exact ⟨rfl, rfl⟩
  · have e : atL L i = 0 := by unfold atL; rw [List.getD_eq_getElem?_getD, List.getElem?_eq_none (by omega)]; rfl
    rw [e]
    have b1 : decide ((n : Int) ≤ (i : Int)) = true := by simp; omega
    clear hro e hn
    go_enter Tryz.func54, Tryz.ntmps54
    go_wp2_with fail
    go_ret
    exact ⟨rfl, rfl⟩
theorem at71_any (v : Value) (L : List Int) (i : Nat) (hv : RV VU w o v L) : Calls Tryz.prog 71 #[v, .int .i64 i] w (PV0 (.int .u64 (atL L i)) w) := by
  obtain ⟨A, cap, rfl, hro, _⟩ := hv
  obtain ⟨n, hn⟩ : ∃ n, n = L.length := ⟨_, rfl⟩
  rw [← hn] at hro ⊢
  by_cases hlt : i < n
  · obtain ⟨p, z, rfl, hz, hcell⟩ := hro.at hlt
    have e : atL L i = z := by unfold atL; rw [List.getD_eq_getElem?_getD, hz]; rfl
    rw [e]
    have b1 : decide ((n : Int) ≤ (i : Int)) = false := by simp; omega
    have i1 : (i : Int) < (n : Int) := by omega
    unfold VU at hcell
    clear hro hz e hn
    go_enter Tryz.func71, Tryz.ntmps71
    go_wp2_with fail
    go_ret
    exact ⟨rfl, rfl⟩
  · have e : atL L i = 0 := by unfold atL; rw [List.getD_eq_getElem?_getD, List.getElem?_eq_none (by omega)]; rfl
    rw [e]
    have b1 : decide ((n : Int) ≤ (i : Int)) = true := by simp; omega
    clear hro e hn
    go_enter Tryz.func71, Tryz.ntmps71
    go_wp2_with fail
    go_ret
    exact ⟨rfl, rfl⟩
theorem whas_any (h : WAt w0 o0 c W x asn w o r) (hc : 0 < c.nodes) (q : Int) : Calls Tryz.prog 22 #[VP W, .int .i64 q] w (PV0 (.bool (inR q 0 ((c.nodes : Int) - 1))) w) := by
  have c9 : w.cell? ⟨W, 9, none⟩ = some r.lv := h.cell 9
  obtain ⟨g, cap, e, _⟩ := h.rowval hc
  rw [e] at c9
  clear h e
  unfold VP
  by_cases h0 : 0 ≤ q
  · by_cases h1 : q < c.nodes
    · have e : inR q 0 ((c.nodes : Int) - 1) = true := inR_yes h0 (by omega)
      rw [e]
      clear e
      go_enter Tryz.func22, Tryz.ntmps22
      go_wp2_with fail
      go_ret
      exact ⟨rfl, rfl⟩
    · have e : inR q 0 ((c.nodes : Int) - 1) = false := inR_high (by omega)
      rw [e]
      have b1 : decide (q < (c.nodes : Int)) = false := by simp; omega
      clear e
      go_enter Tryz.func22, Tryz.ntmps22
      go_wp2_with fail
      go_ret
      exact ⟨rfl, rfl⟩
  · have e : inR q 0 ((c.nodes : Int) - 1) = false := inR_low (by omega)
    have b1 : decide (0 ≤ q) = false := by simp; omega
    rw [e]
    clear e
    go_enter Tryz.func22, Tryz.ntmps22
    go_wp2_with fail
    go_ret
    exact ⟨rfl, rfl⟩
theorem wnode_any (h : WAt w0 o0 c W x asn w o r) (i b : Nat) (hi : i < c.nodes) (hb : r.bs[i]? = some b) : Calls Tryz.prog 8 #[VP W, .int .i64 i] w (PV0 (VP b) w) := by
  have HH := Lib.hid (whas_any h (by omega) i)
  rw [inR_yes (by omega) (by omega)] at HH
  have c9 : w.cell? ⟨W, 9, none⟩ = some r.lv := h.cell 9
  obtain ⟨g, cap, e, he⟩ := h.rowval (by omega)
  have hcell := he i b hb
  rw [e] at c9
  have i1 : (i : Int) < (c.nodes : Int) := by omega
  clear h e he hb
  unfold VP at *
  go_enter Tryz.func8, Tryz.ntmps8
  go_wp2_with fail
  (with_reducible refine HH.out.mono ?_)
  rintro en w1 ⟨rfl, rfl⟩
  go_wp2_with fail
  go_ret
  exact ⟨rfl, rfl⟩
end
end Go.Proofs.YtnpihllannobgaaGreatDoor
namespace Go.Proofs.YtnpihllannobgaaGreatDoor
set_option linter.unusedVariables false
set_option linter.unusedSimpArgs false
open Go.ChangeShapes Go.WideShapes Go.ChangeAt Go.RowKit

/-- append a row of structs to a row. -/
theorem appRow {w : World} {ops : Array Oper} {rest : List Oper} {o : Oper} {a : Act} {Q : Exit → Act → World → Prop} {t e sz bytes : Nat} (he : ElS t e sz bytes) (hgd : o.guard = none) (s x : Operand)
    (ho : o.op = .call { callee := .builtin .append, args := #[s, x], argTypes := #[t, t] })
    (base : Nat) (v : Value) (n : Nat) (xs : List Value) (hs : a.eval s = v) (hown : w.ownsRow base e sz v n xs)
    (b2 : Nat) (v2 : Value) (m : Nat) (ys : List Value) (hx : a.eval x = v2) (hrow : w.ownsRow b2 e sz v2 m ys) (h1 : ∀ u ∈ ys, u.oneCell' = true)
    (hby : bytes ≤ 200) (h63 : n + m ≤ 1000000) (hbase : base ≤ w.heap.size)
    (h : ∀ v' w', w'.ownsRow base e sz v' (n + m) (xs ++ ys) → w.grownBy w' v.ownBlock → (v'.ownBlock = v.ownBlock ∨ v'.ownBlock = some w.heap.size) → wpList Tryz.prog ops Q rest (a.put o.dst v') w') : wpList Tryz.prog ops Q (o :: rest) a w := by
  obtain ⟨ht, i, z, h1i, h2i, h3i, h4i, h5i, h6i⟩ := he
  rcases own_val hrow with ⟨e1, hm, _⟩ | ⟨g, cap, e1, _⟩
  · subst hm
    have hy : ys = [] := List.eq_nil_of_length_eq_zero (by rw [hrow.1]; simp)
    subst hy
    exact wpList_append_own_none hgd s x t ho base e i sz ht h1i v n xs hs hown (by rw [hx, e1]) (h v w (by simpa using hown) ⟨rfl, rfl, rfl, Nat.le_refl _, fun _ _ _ => rfl⟩ (.inl rfl))
  · subst e1
    have h7 : (n + m) * bytes ≤ (n + m) * 200 := Nat.mul_le_mul_left _ hby
    refine wpList_append_own_at w hgd s x t ho base e i z sz bytes ht h1i h2i h3i h4i h5i h6i v n xs hs hown ⟨g, 0, none⟩ m cap ys hx hrow.1 (fun j u hu => ?_) h1 (by unfold maxLen; omega) (by omega) hbase (fun v' w' k1 k2 _ k4 => h v' w' k1 k2 k4)
    rw [add_mk, Nat.zero_add]
    exact own_cellS hrow j u hu
def WR.same (r r' : WR) : Prop := r'.lv = r.lv ∧ r'.bs = r.bs ∧ r'.bv = r.bv ∧ r'.nv = r.nv ∧ r'.hv = r.hv
theorem WR.same.refl (r : WR) : r.same r := ⟨rfl, rfl, rfl, rfl, rfl⟩
theorem WR.same.trans {r r1 r2 : WR} (h : r.same r1) (k : r1.same r2) : r.same r2 := ⟨k.1.trans h.1, k.2.1.trans h.2.1, k.2.2.1.trans h.2.2.1, k.2.2.2.1.trans h.2.2.2.1, k.2.2.2.2.trans h.2.2.2.2⟩
/-- a result; how the world is then. -/
def PW (w0 : World) (o0 : Cls) (c : Cfg) (W : Nat) (x : WM) (asn : Int) (r : WR) (V : Value → World → Cls → Prop) (en : Ending) (w' : World) : Prop :=
  ∃ v o' r', en = .returned v ∧ WAt w0 o0 c W x asn w' o' r' ∧ r.same r' ∧ V v w' o'
section
variable {w0 w w' : World} {o0 o o' : Cls} {c : Cfg} {W : Nat} {x x' : WM} {asn : Int} {r r' : WR} {S : Nat → Prop}
theorem Wd.nds (h : Wd w o c W r x asn) (e : Ext w o o') (g : Chg S w w') (n0 : ∀ k, o k = 0 → ¬ S k) (nm : ∀ i, i < 16 → ∀ k, NdS o i k → ¬ S k) (hc : c.nodes ≤ 16) :
    ∀ i, i < c.nodes → ∃ b q, r.bs[i]? = some b ∧ Nd w' o' c i b q (x.nd i) := fun i hi => by
  obtain ⟨b, q, h1, h2⟩ := h.nd i hi
  exact ⟨b, q, h1, h2.step e g n0 (nm i (by omega))⟩
/-- S is a part of the world's own. -/
theorem part_no {m : Nat} (hm : m ≤ 15) (hS : ∀ k, S k → o k = cl 16 m) : (∀ k, o k = 0 → ¬ S k) ∧ (∀ j, j ≠ m → j ≤ 15 → ∀ k, o k = cl 16 j → ¬ S k) ∧ (∀ i, i < 16 → ∀ k, NdS o i k → ¬ S k) :=
  ⟨fun k hk hs => by have := hS k hs; rw [hk] at this; exact cl_ne0 16 m this.symm,
   fun j hj h15 k hk hs => hj (cl_inj (hk.symm.trans (hS k hs)) (by omega) (by omega)).2,
   fun i hi k hk hs => by obtain ⟨j, hj, hk⟩ := hk; have := (cl_inj (hk.symm.trans (hS k hs)) (by omega) (by omega)).1; omega⟩
/-- an entry of what is known is set. -/
theorem WAt.bset (h : WAt w0 o0 c W x asn w o r) (hc : c.nodes ≤ 16) {g cap : Nat} (hg : r.bv = .slice (some ⟨g, 0, none⟩) c.nodes cap) (q : Nat) (hq : q < c.nodes) (z : Int) :
    WAt w0 o0 c W { x with bound := x.bound.set q z } asn (w.setCell ⟨g, q, none⟩ (.int .i64 z)) o r := by
  have hd := h.wd
  have hog : o g = cl 16 2 := hd.bndo g (by rw [hg]; rfl)
  have G := chg1 w g q (.int .i64 z)
  obtain ⟨n0, nj, nm⟩ := part_no (S := fun k => k = g) (o := o) (m := 2) (by omega) (fun k hk => by rw [hk]; exact hog)
  have hb := hd.bnd
  rw [hg] at hb
  have hb2 := own_set hb q (.int .i64 z) hq
  refine h.next ⟨Chg.keep G hd.blk (nj 0 (by omega) (by omega) _ hd.ob), hd.ob, hd.near.step (Ext.refl _ _) G n0, hd.hops.step (Ext.refl _ _) G n0, own_chg hd.row G (fun k hk => nj 1 (by omega) (by omega) k (hd.rowo k hk)), hd.rowo,
    ?_, hd.bndo, hd.inj.keep G (nj 3 (by omega) (by omega) _ hd.injo), hd.injo, hd.ev.step (Ext.refl _ _) G (fun k hk => hk.elim (n0 k) (nj 4 (by omega) (by omega) k)), hd.nl, hd.nds (Ext.refl _ _) G n0 nm hc⟩ (h.z.more G.size) (Ext.refl _ _)
    (G.mono (fun k _ hk => by unfold WdS; rw [hk, hog]; exact ⟨cl_ne0 16 2, by unfold cl; omega⟩))
  rw [hg]
  have e : List.map VI (x.bound.set q z) = (List.map VI x.bound).set q (.int .i64 z) := by rw [List.map_set]; rfl
  show World.ownsRow _ 0 2 1 _ c.nodes (List.map VI (x.bound.set q z))
  rw [e]; exact hb2
/-- events are told. -/
theorem WAt.tolds (h : WAt w0 o0 c W x asn w o r) (hc : c.nodes ≤ 16) {ks : List (Ev × Value × Value)} {l : List Ev} (v' : Value) (w5 : World) (n : Nat) (hn : n = x.ev.length) (ps : List (Ev × Value × Value)) (e4 : x.ev = ps.map Prod.fst)
    (hps : ∀ p ∈ ps, RV VI w o p.2.1 p.1.p.path ∧ BO w o p.2.2 p.1.p.data) (hks : ∀ p ∈ ks, RV VI w o p.2.1 p.1.p.path ∧ BO w o p.2.2 p.1.p.data) (hl : l = ks.map Prod.fst)
    (G : Chg (fun k => r.ev.ownBlock = some k) w w5) (hrow : w5.ownsRow 0 44 10 v' (n + ks.length) (ps.flatMap cellsV ++ ks.flatMap cellsV)) (hat : v'.ownBlock = r.ev.ownBlock ∨ v'.ownBlock = some w.heap.size) :
    ∃ o', WAt w0 o0 c W { x with ev := x.ev ++ l } asn (w5.setCell ⟨W, 13, none⟩ v') o' { r with ev := v' } := by
  have hd := h.wd
  obtain ⟨ps0, r1, r2, r3, r4⟩ := hd.ev
  have hlen : ps.length = n := by rw [hn, e4, List.length_map]
  have hWl := lt_of_block hd.blk
  have hWN : ∀ k, r.ev.ownBlock = some k → k ≠ W := fun k hk e => by
    subst e; have h1 := r2 k hk; rw [hd.ob] at h1; have := (cl_inj h1 (by omega) (by omega)).2; omega
  have gs := chg1 w5 W 13 v'
  have G2 : Chg (fun q => r.ev.ownBlock = some q ∨ q = W) w (w5.setCell ⟨W, 13, none⟩ v') :=
    (G.mono (fun k _ hk => (.inl hk : r.ev.ownBlock = some k ∨ k = W))).trans (gs.mono (fun k _ hk => .inr hk))
  have n0 : ∀ k, o k = 0 → ¬ (r.ev.ownBlock = some k ∨ k = W) := fun k hk hs => by
    rcases hs with hs | hs
    · have := r2 k hs; rw [hk] at this; exact cl_ne0 16 4 this.symm
    · subst hs; rw [hd.ob] at hk; exact cl_ne0 16 0 hk
  have nj : ∀ j, j ≠ 4 → j ≠ 0 → j ≤ 15 → ∀ k, o k = cl 16 j → ¬ (r.ev.ownBlock = some k ∨ k = W) := fun j h4 h0 h15 k hk hs => by
    rcases hs with hs | hs
    · exact h4 (cl_inj (hk.symm.trans (r2 k hs)) (by omega) (by omega)).2
    · subst hs; exact h0 (cl_inj (hk.symm.trans hd.ob) (by omega) (by omega)).2
  have nm : ∀ i, i < 16 → ∀ k, NdS o i k → ¬ (r.ev.ownBlock = some k ∨ k = W) := fun i hi k hk hs => by
    obtain ⟨j, hj, hk⟩ := hk
    rcases hs with hs | hs
    · have := (cl_inj (hk.symm.trans (r2 k hs)) (by omega) (by omega)).1; omega
    · subst hs; have := (cl_inj (hk.symm.trans hd.ob) (by omega) (by omega)).1; omega
  have hbk : (w5.setCell ⟨W, 13, none⟩ v').heap[W]? = some (.cells (cellsW c { r with ev := v' } asn) 61 (0, 0)) :=
    block_set (Chg.keep G hd.blk (fun e => hWN W e rfl)) 13 _
  have hvW : ∀ k, v'.ownBlock = some k → k ≠ W := fun k hk => by
    rcases hat with e | e
    · rw [e] at hk; exact hWN k hk
    · rw [e] at hk; cases hk; omega
  have hrw : (w5.setCell ⟨W, 13, none⟩ v').ownsRow 0 44 10 v' (ps ++ ks).length ((ps ++ ks).flatMap cellsV) := by
    have := own_chg hrow gs (fun k hk e => hvW k hk e)
    rw [List.flatMap_append, List.length_append, hlen]; exact this
  have key : ∀ o', Ext w o o' → Z w5 o' → (∀ k, v'.ownBlock = some k → o' k = cl 16 4) → ∃ o', WAt w0 o0 c W { x with ev := x.ev ++ l } asn (w5.setCell ⟨W, 13, none⟩ v') o' { r with ev := v' } := by
    intro o' hE hZ hv
    refine ⟨o', h.next ⟨hbk, by rw [hE W hWl]; exact hd.ob, hd.near.step hE G2 n0, hd.hops.step hE G2 n0, own_chg hd.row G2 (fun k hk => nj 1 (by omega) (by omega) (by omega) k (hd.rowo k hk)),
      fun k hk => by rw [hE k (own_inS hd.row hk).2]; exact hd.rowo k hk, own_chg hd.bnd G2 (fun k hk => nj 2 (by omega) (by omega) (by omega) k (hd.bndo k hk)), fun k hk => by rw [hE k (own_inS hd.bnd hk).2]; exact hd.bndo k hk,
      hd.inj.keep G2 (nj 3 (by omega) (by omega) (by omega) _ hd.injo), by rw [hE _ hd.inj.lt]; exact hd.injo,
      ⟨ps ++ ks, hrw, hv, fun p hp => ?_, by rw [List.map_append, ← e4, ← hl]⟩, hd.nl, hd.nds hE G2 n0 nm hc⟩ (hZ.more gs.size) hE (G2.mono (fun k _ hk => ?_))⟩
    · rcases List.mem_append.1 hp with hp | hp
      · exact ⟨(hps p hp).1.step hE G2 n0, (hps p hp).2.step hE G2 n0⟩
      · exact ⟨(hks p hp).1.step hE G2 n0, (hks p hp).2.step hE G2 n0⟩
    · unfold WdS
      rcases hk with hk | hk
      · rw [r2 k hk]; exact ⟨cl_ne0 16 4, by unfold cl; omega⟩
      · rw [hk, hd.ob]; exact ⟨cl_ne0 16 0, by unfold cl; omega⟩
  rcases hat with e | e
  · exact key o (Ext.refl _ _) (h.z.more G.size) (fun k hk => r2 k (e ▸ hk))
  · refine key (cls o w.heap.size (cl 16 4)) (Ext.cls o _ _ (Nat.le_refl _)) ((h.z.more G.size).cls _ ?_) (fun k hk => by rw [e] at hk; cases hk; exact cls_at _ _ _)
    exact (own_inS hrow e).2
end
end Go.Proofs.YtnpihllannobgaaGreatDoor
