/- A world does a step: a slot, or a node begins anew. A world that is being built. No condition. -/
import Derived.Test.YtnpihllannobgaaGreatDoorG30
namespace Go.Proofs.YtnpihllannobgaaGreatDoor
set_option linter.unusedVariables false
set_option linter.unusedSimpArgs false
open Go.ChangeShapes Go.WideShapes Go.ChangeAt Go.RowKit

def noEvW (x : WM) : WM := { x with ev := [] }
/-- behind a step: what is told, and no error. -/
def PDo (w0 : World) (o0 : Cls) (c : Cfg) (W : Nat) (x : WM) (asn : Int) (r : WR) (en : Ending) (w' : World) : Prop :=
  ∃ v o' r', en = .returned (.tuple #[v, .int .i64 0]) ∧ WAt w0 o0 c W (noEvW x) asn w' o' r' ∧ Eo w' o' (cl 16 4) v x.ev ∧ r'.lv = r.lv ∧ r'.bs = r.bs
section
variable {w0 w w' : World} {o0 o o' : Cls} {c : Cfg} {W : Nat} {x x' : WM} {asn : Int} {r r' : WR} {d : Dr} {dr lo ac er da : Value} {S : Nat → Prop}
theorem WAt.evset (h : WAt w0 o0 c W x asn w o r) (hc : c.nodes ≤ 16) : WAt w0 o0 c W (noEvW x) asn (w.setCell ⟨W, 13, none⟩ (.slice none 0 0)) o { r with ev := .slice none 0 0 } ∧ Eo (w.setCell ⟨W, 13, none⟩ (.slice none 0 0)) o (cl 16 4) r.ev x.ev := by
  have hd := h.wd
  have G := chg1 w W 13 (.slice none 0 0)
  obtain ⟨n0, nj, nm⟩ := part_no (S := fun k => k = W) (o := o) (m := 0) (by omega) (fun k hk => by rw [hk]; exact hd.ob)
  exact ⟨h.next ⟨block_set hd.blk 13 _, hd.ob, hd.near.step (Ext.refl _ _) G n0, hd.hops.step (Ext.refl _ _) G n0, own_chg hd.row G (fun k hk => nj 1 (by omega) (by omega) k (hd.rowo k hk)), hd.rowo,
    own_chg hd.bnd G (fun k hk => nj 2 (by omega) (by omega) k (hd.bndo k hk)), hd.bndo, hd.inj.keep G (nj 3 (by omega) (by omega) _ hd.injo), hd.injo, Eo.nil _ _ _, hd.nl, hd.nds (Ext.refl _ _) G n0 nm hc⟩
    (h.z.more G.size) (Ext.refl _ _) (G.mono (fun k _ hk => by unfold WdS; rw [hk, hd.ob]; exact ⟨cl_ne0 16 0, by unfold cl; omega⟩)),
    hd.ev.step (Ext.refl _ _) G (fun k hk => hk.elim (n0 k) (nj 4 (by omega) (by omega) k))⟩
theorem WAt.evrow (h : WAt w0 o0 c W x asn w o r) : ∃ A n cap, r.ev = .slice A n cap := by
  obtain ⟨ps, e1, _⟩ := h.wd.ev
  rcases own_val e1 with ⟨e, _, _⟩ | ⟨g, cap, e, _⟩
  · exact ⟨none, 0, 0, e⟩
  · exact ⟨_, _, _, e⟩
set_option maxRecDepth 100000 in
set_option maxHeartbeats 4000000 in
theorem wdo_slot (hc : CfgOk c) (h : WAt w0 o0 c W x asn w o r) (ha : 0 ≤ asn ∧ asn < 1099511627775) (i' t : Int) (hs : So w o d dr lo ac er da) (hok : SlotOk c d asn x) :
    Calls Tryz.prog 7 #[VP W, stpV 1 i' t dr lo ac er da] w (PDo w0 o0 c W (slot5W c d c.nodes asn x) (asn + 1) r) := by
  have hn1 := hc.n1
  obtain ⟨dA, dc, hdr, _⟩ := hs.drift
  obtain ⟨lA, lc, hlo, _⟩ := hs.lost
  obtain ⟨aA, acp, hac, _⟩ := hs.acks
  obtain ⟨eA, ec, her, _⟩ := hs.err
  obtain ⟨xA, xn, xc, hda⟩ := hs.da
  obtain ⟨dn, hdn⟩ : ∃ n, n = d.drift.length := ⟨_, rfl⟩
  obtain ⟨ln, hln⟩ : ∃ n, n = d.lost.length := ⟨_, rfl⟩
  obtain ⟨an, han⟩ : ∃ n, n = d.acks.length := ⟨_, rfl⟩
  obtain ⟨en, hen⟩ : ∃ n, n = d.err.length := ⟨_, rfl⟩
  rw [← hdn] at hdr
  rw [← hln] at hlo
  rw [← han] at hac
  rw [← hen] at her
  subst hdr hlo hac her hda
  have ga := Chg.alloc (fun _ => False) w (.cells #[.int .i64 1, .int .i64 i', .int .i64 t, .slice dA dn dc, .slice lA ln lc, .slice aA an acp, .slice eA en ec, .slice xA xn xc] 35)
  have hba := block_alloc w (.cells #[.int .i64 1, .int .i64 i', .int .i64 t, .slice dA dn dc, .slice lA ln lc, .slice aA an acp, .slice eA en ec, .slice xA xn xc] 35)
  obtain ⟨d0, d1, d2, d3, d4, d5, d6, d7⟩ := cell8 hba
  have HS := Lib.hid (wslot_any hc (h.kept hn1 ga) ha 1 i' t (hs.step (Ext.refl _ _) ga (fun _ _ e => e)) hok)
  clear h hs hok ga hba hdn hln han hen hc
  unfold VP stpV at *
  go_enter Tryz.func7, Tryz.ntmps7
  go_wp2_with fail
  (with_reducible refine HS.out.mono ?_)
  rintro en w1 ⟨o1, r1, rfl, hA, hl, hb⟩
  clear d0 d1 d2 d3 d4 d5 d6 d7
  have c13 : w1.cell? ⟨W, 13, none⟩ = some r1.ev := hA.cell 13
  have f13 := hA.f 13
  obtain ⟨vA, vn, vc, hv⟩ := hA.evrow
  have HE := Lib.hid (And.intro (hA.evset hn1) (And.intro hl (And.intro hb hv)))
  rw [hv] at c13
  clear hA hl hb hv
  go_wp2_with fail
  go_ret2
  obtain ⟨⟨k1, k2⟩, k3, k4, k5⟩ := HE.out
  exact ⟨_, o1, _, rfl, k1, k5 ▸ k2, k3, k4⟩
set_option maxRecDepth 100000 in
set_option maxHeartbeats 4000000 in
theorem wdo_reboot (hc : CfgOk c) (h : WAt w0 o0 c W x asn w o r) (i : Nat) (hi : i < c.nodes) (hi0 : i ≠ 0) (hx : -1000000000000000 ≤ (x.nd i).base ∧ (x.nd i).base ≤ 1000000000000000) (hy : -1000000000000000 ≤ (x.nd i).sum ∧ (x.nd i).sum ≤ 1000000000000000) (hev : x.ev.length ≤ 100000) (t : Int) (hs : So w o d dr lo ac er da) :
    Calls Tryz.prog 7 #[VP W, stpV 3 i t dr lo ac er da] w (PDo w0 o0 c W (rebootW c i x) asn r) := by
  have hn1 := hc.n1
  obtain ⟨dA, dc, hdr, _⟩ := hs.drift
  obtain ⟨lA, lc, hlo, _⟩ := hs.lost
  obtain ⟨aA, acp, hac, _⟩ := hs.acks
  obtain ⟨eA, ec, her, _⟩ := hs.err
  obtain ⟨xA, xn, xc, hda⟩ := hs.da
  obtain ⟨dn, hdn⟩ : ∃ n, n = d.drift.length := ⟨_, rfl⟩
  obtain ⟨ln, hln⟩ : ∃ n, n = d.lost.length := ⟨_, rfl⟩
  obtain ⟨an, han⟩ : ∃ n, n = d.acks.length := ⟨_, rfl⟩
  obtain ⟨en, hen⟩ : ∃ n, n = d.err.length := ⟨_, rfl⟩
  rw [← hdn] at hdr
  rw [← hln] at hlo
  rw [← han] at hac
  rw [← hen] at her
  subst hdr hlo hac her hda
  have ga := Chg.alloc (fun _ => False) w (.cells #[.int .i64 3, .int .i64 i, .int .i64 t, .slice dA dn dc, .slice lA ln lc, .slice aA an acp, .slice eA en ec, .slice xA xn xc] 35)
  have hba := block_alloc w (.cells #[.int .i64 3, .int .i64 i, .int .i64 t, .slice dA dn dc, .slice lA ln lc, .slice aA an acp, .slice eA en ec, .slice xA xn xc] 35)
  obtain ⟨d0, d1, d2, d3, d4, d5, d6, d7⟩ := cell8 hba
  have HS := Lib.hid (wreboot_any hc (h.kept hn1 ga) i hi hi0 hx hy hev)
  clear h hs ga hba hdn hln han hen hc
  unfold VP stpV at *
  go_enter Tryz.func7, Tryz.ntmps7
  go_wp2_with fail
  (with_reducible refine HS.out.mono ?_)
  rintro en w1 ⟨o1, r1, rfl, hA, hl, hb⟩
  clear d0 d1 d2 d3 d4 d5 d6 d7
  have c13 : w1.cell? ⟨W, 13, none⟩ = some r1.ev := hA.cell 13
  have f13 := hA.f 13
  obtain ⟨vA, vn, vc, hv⟩ := hA.evrow
  have HE := Lib.hid (And.intro (hA.evset hn1) (And.intro hl (And.intro hb hv)))
  rw [hv] at c13
  clear hA hl hb hv
  go_wp2_with fail
  go_ret2
  obtain ⟨⟨k1, k2⟩, k3, k4, k5⟩ := HE.out
  exact ⟨_, o1, _, rfl, k1, k5 ▸ k2, k3, k4⟩
end
end Go.Proofs.YtnpihllannobgaaGreatDoor
namespace Go.Proofs.YtnpihllannobgaaGreatDoor
set_option linter.unusedVariables false
set_option linter.unusedSimpArgs false
open Go.ChangeShapes Go.WideShapes Go.ChangeAt Go.RowKit

theorem ElN : ElS 57 36 1 8 := ElS.of (z := .pointer none) (by kernel_rfl) (by kernel_rfl) (by decide +kernel) (by decide)
theorem ElI8 : ElS 58 2 1 8 := ElS.of (z := .int .i64 0) (by kernel_rfl) (by kernel_rfl) (by decide +kernel) (by decide)
/-- a world of k nodes so far, and m bounds; cb: the config's copy. -/
structure Wb (w0 : World) (o0 : Cls) (c : Cfg) (W cb : Nat) (r : WR) (k m : Nat) (w : World) (o : Cls) : Prop where
  blk : w.heap[W]? = some (.cells (cellsW c r 0) 61 (0, 0))
  ob : o W = cl 16 0
  wl : w0.heap.size ≤ W
  box : w.heap[cb]? = some (.cells #[.int .i64 c.nodes, r.nv, r.hv, .int .i64 c.guard, .int .i64 c.err, .int .i64 c.keep, .int .i64 c.loss, .int .i64 c.queue, .int .i64 c.life] 26 (0, 0))
  oc : o cb = 0
  near : RV VU w o r.nv c.near
  hops : RV VI w o r.hv c.hops
  row : w.ownsRow 0 36 1 r.lv k (r.bs.map VP)
  rowo : ∀ j, r.lv.ownBlock = some j → o j = cl 16 1 ∧ w0.heap.size ≤ j
  bnd : w.ownsRow 0 2 1 r.bv m ((List.replicate m (-1 : Int)).map VI)
  bndo : ∀ j, r.bv.ownBlock = some j → o j = cl 16 2 ∧ w0.heap.size ≤ j
  inj : Mp w r.inj (fun _ => none)
  injo : o r.inj = cl 16 3
  ev : r.ev = .slice none 0 0
  nd : ∀ i, i < k → ∃ b q, r.bs[i]? = some b ∧ Nd w o c i b q (newN i)
  z : Z w o
  ext : Ext w0 o0 o
  chg : Chg (fun _ => False) w0 w
section
variable {w0 w w' : World} {o0 o o' : Cls} {c : Cfg} {W cb k m : Nat} {r r' : WR} {S : Nat → Prop}
theorem Wb.bl (h : Wb w0 o0 c W cb r k m w o) : r.bs.length = k := by
  have := h.row.1
  simpa using this
/-- nothing of it is turned. -/
theorem Wb.same (h : Wb w0 o0 c W cb r k m w o) (e : Ext w o o') (z : Z w' o') (g : Chg (fun _ => False) w w') : Wb w0 o0 c W cb r k m w' o' :=
  ⟨Chg.keep g h.blk (fun e => e), by rw [e W (lt_of_block h.blk)]; exact h.ob, h.wl, Chg.keep g h.box (fun e => e), by rw [e cb (lt_of_block h.box)]; exact h.oc, h.near.step e g (fun _ _ e => e), h.hops.step e g (fun _ _ e => e),
    own_chg h.row g (fun _ _ e => e), fun j hj => by rw [e j (own_inS h.row hj).2]; exact h.rowo j hj, own_chg h.bnd g (fun _ _ e => e), fun j hj => by rw [e j (own_inS h.bnd hj).2]; exact h.bndo j hj,
    h.inj.keep g (fun e => e), by rw [e _ h.inj.lt]; exact h.injo, h.ev, fun i hi => by
      obtain ⟨b, q, h1, h2⟩ := h.nd i hi
      exact ⟨b, q, h1, h2.step e g (fun _ _ e => e) (fun _ _ e => e)⟩, z, h.ext.trans e h.chg.size, h.chg.trans g⟩
theorem Wb.kept (h : Wb w0 o0 c W cb r k m w o) (g : Chg (fun _ => False) w w') : Wb w0 o0 c W cb r k m w' o := h.same (Ext.refl _ _) (h.z.more g.size) g
theorem Wb.lval (h : Wb w0 o0 c W cb r k m w o) : ∃ A cap, r.lv = .slice A k cap := by
  rcases own_val h.row with ⟨e, h1, _⟩ | ⟨g, cap, e, _⟩
  · exact ⟨none, 0, by rw [e, h1]⟩
  · exact ⟨_, _, e⟩
theorem Wb.bval (h : Wb w0 o0 c W cb r k m w o) : ∃ A cap, r.bv = .slice A m cap := by
  rcases own_val h.bnd with ⟨e, h1, _⟩ | ⟨g, cap, e, _⟩
  · exact ⟨none, 0, by rw [e, h1]⟩
  · exact ⟨_, _, e⟩
theorem Wb.cell (h : Wb w0 o0 c W cb r k m w o) (j : Nat) : w.cell? ⟨W, j, none⟩ = (cellsW c r 0)[j]? := by rw [cell_of_block h.blk]
theorem Wb.f (h : Wb w0 o0 c W cb r k m w o) (j : Nat) : w.frozen? ⟨W, j, none⟩ = false := frozen_of_block h.blk j
theorem Wb.rowW (h : Wb w0 o0 c W cb r k m w o) : ¬ r.lv.ownBlock = some W := fun e => by
  have h1 := (h.rowo W e).1
  rw [h.ob] at h1
  have := (cl_inj h1 (by omega) (by omega)).2
  omega
theorem Wb.bndW (h : Wb w0 o0 c W cb r k m w o) : ¬ r.bv.ownBlock = some W := fun e => by
  have h1 := (h.bndo W e).1
  rw [h.ob] at h1
  have := (cl_inj h1 (by omega) (by omega)).2
  omega
/-- blocks of class t of the world, and its own one. -/
theorem two_no {t : Nat} (ht : t ≤ 15) (hS : ∀ j, S j → o j = cl 16 t ∨ o j = cl 16 0) : (∀ j, o j = 0 → ¬ S j) ∧ (∀ q, q ≠ t → q ≠ 0 → q ≤ 15 → ∀ j, o j = cl 16 q → ¬ S j) ∧ (∀ i, i < 16 → ∀ j, NdS o i j → ¬ S j) :=
  ⟨fun j hj hs => by
    rcases hS j hs with h | h
    · rw [hj] at h; exact cl_ne0 16 t h.symm
    · rw [hj] at h; exact cl_ne0 16 0 h.symm,
   fun q h1 h2 h15 j hj hs => by
    rcases hS j hs with h | h
    · exact h1 (cl_inj (hj.symm.trans h) (by omega) (by omega)).2
    · exact h2 (cl_inj (hj.symm.trans h) (by omega) (by omega)).2,
   fun i hi j hj hs => by
    obtain ⟨q, hq, hj⟩ := hj
    rcases hS j hs with h | h
    · have := (cl_inj (hj.symm.trans h) (by omega) (by omega)).1; omega
    · have := (cl_inj (hj.symm.trans h) (by omega) (by omega)).1; omega⟩
/-- what is told of a new part is behind w0. -/
theorem chg_past (h : Chg (fun _ => False) w0 w) (g : Chg S w w') (hS : ∀ j, S j → w0.heap.size ≤ j) : Chg (fun _ => False) w0 w' :=
  ⟨g.os.trans h.os, g.tape.trans h.tape, g.output.trans h.output, Nat.le_trans h.size g.size, fun q hi _ => (g.block q (Nat.lt_of_lt_of_le hi h.size) (fun hs => by have := hS q hs; omega)).trans (h.block q hi (fun e => e))⟩
/-- a node more. -/
theorem Wb.node (h : Wb w0 o0 c W cb r k m w o) (hc : c.nodes ≤ 16) (hk : k < c.nodes) {nb : Nat} {q : NR} (hN : Nd w o c k nb q (newN k)) {v : Value} {w5 : World}
    (G : Chg (fun j => r.lv.ownBlock = some j) w w5) (hrow : w5.ownsRow 0 36 1 v (k + 1) (r.bs.map VP ++ [VP nb])) (hat : v.ownBlock = r.lv.ownBlock ∨ v.ownBlock = some w.heap.size) :
    ∃ o', Wb w0 o0 c W cb { r with lv := v, bs := r.bs ++ [nb] } (k + 1) m (w5.setCell ⟨W, 9, none⟩ v) o' := by
  have gs := chg1 w5 W 9 v
  have G2 : Chg (fun j => r.lv.ownBlock = some j ∨ j = W) w (w5.setCell ⟨W, 9, none⟩ v) := (G.mono (fun k _ hk => (.inl hk : r.lv.ownBlock = some k ∨ k = W))).trans (gs.mono (fun k _ hk => .inr hk))
  obtain ⟨n0, nj, nm⟩ := two_no (S := fun j => r.lv.ownBlock = some j ∨ j = W) (o := o) (t := 1) (by omega) (fun j hj => by
    rcases hj with hj | hj
    · exact .inl (h.rowo j hj).1
    · exact .inr (by rw [hj]; exact h.ob))
  have hbk : (w5.setCell ⟨W, 9, none⟩ v).heap[W]? = some (.cells (cellsW c { r with lv := v, bs := r.bs ++ [nb] } 0) 61 (0, 0)) := block_set (Chg.keep G h.blk h.rowW) 9 _
  have hvW : ¬ v.ownBlock = some W := fun e => by
    rcases hat with e2 | e2
    · rw [e2] at e; exact h.rowW e
    · rw [e2] at e; cases e; have := lt_of_block h.blk; omega
  have hbl := h.bl
  have key : ∀ o', Ext w o o' → Z w5 o' → (∀ j, v.ownBlock = some j → o' j = cl 16 1) → ∃ o', Wb w0 o0 c W cb { r with lv := v, bs := r.bs ++ [nb] } (k + 1) m (w5.setCell ⟨W, 9, none⟩ v) o' := by
    intro o' hE hZ hv
    refine ⟨o', hbk, by rw [hE W (lt_of_block h.blk)]; exact h.ob, h.wl, Chg.keep G2 h.box (n0 cb h.oc), by rw [hE cb (lt_of_block h.box)]; exact h.oc, h.near.step hE G2 n0, h.hops.step hE G2 n0,
      ?_, fun j hj => ⟨hv j hj, ?_⟩, own_chg h.bnd G2 (fun j hj => nj 2 (by omega) (by omega) (by omega) j (h.bndo j hj).1), fun j hj => by rw [hE j (own_inS h.bnd hj).2]; exact h.bndo j hj,
      h.inj.keep G2 (nj 3 (by omega) (by omega) (by omega) _ h.injo), by rw [hE _ h.inj.lt]; exact h.injo, h.ev, fun i hi => ?_, hZ.more gs.size, h.ext.trans hE h.chg.size, ?_⟩
    · have := own_chg hrow gs (fun j hj e => hvW (e ▸ hj))
      simpa using this
    · rcases hat with e | e
      · rw [e] at hj; exact (h.rowo j hj).2
      · rw [e] at hj; cases hj; exact h.chg.size
    · by_cases hik : i < k
      · obtain ⟨b, q, h1, h2⟩ := h.nd i hik
        exact ⟨b, q, by rw [List.getElem?_append_left (by omega)]; exact h1, h2.step hE G2 n0 (nm i (by omega))⟩
      · obtain rfl : i = k := by omega
        exact ⟨nb, q, by rw [List.getElem?_append_right (by omega), hbl]; simp, hN.step hE G2 n0 (nm i (by omega))⟩
    · exact chg_past h.chg G2 (fun j hj => by
        rcases hj with hj | hj
        · exact (h.rowo j hj).2
        · rw [hj]; exact h.wl)
  rcases hat with e | e
  · exact key o (Ext.refl _ _) (h.z.more G.size) (fun j hj => (h.rowo j (e ▸ hj)).1)
  · refine key (cls o w.heap.size (cl 16 1)) (Ext.cls o _ _ (Nat.le_refl _)) ((h.z.more G.size).cls _ ?_) (fun j hj => by rw [e] at hj; cases hj; exact cls_at _ _ _)
    exact (own_inS hrow e).2
/-- a bound more. -/
theorem Wb.bound (h : Wb w0 o0 c W cb r k m w o) (hc : c.nodes ≤ 16) (hk : k ≤ c.nodes) {v : Value} {w5 : World}
    (G : Chg (fun j => r.bv.ownBlock = some j) w w5) (hrow : w5.ownsRow 0 2 1 v (m + 1) ((List.replicate m (-1 : Int)).map VI ++ [.int .i64 (-1)])) (hat : v.ownBlock = r.bv.ownBlock ∨ v.ownBlock = some w.heap.size) :
    ∃ o', Wb w0 o0 c W cb { r with bv := v } k (m + 1) (w5.setCell ⟨W, 11, none⟩ v) o' := by
  have gs := chg1 w5 W 11 v
  have G2 : Chg (fun j => r.bv.ownBlock = some j ∨ j = W) w (w5.setCell ⟨W, 11, none⟩ v) := (G.mono (fun k _ hk => (.inl hk : r.bv.ownBlock = some k ∨ k = W))).trans (gs.mono (fun k _ hk => .inr hk))
  obtain ⟨n0, nj, nm⟩ := two_no (S := fun j => r.bv.ownBlock = some j ∨ j = W) (o := o) (t := 2) (by omega) (fun j hj => by
    rcases hj with hj | hj
    · exact .inl (h.bndo j hj).1
    · exact .inr (by rw [hj]; exact h.ob))
  have hbk : (w5.setCell ⟨W, 11, none⟩ v).heap[W]? = some (.cells (cellsW c { r with bv := v } 0) 61 (0, 0)) := block_set (Chg.keep G h.blk h.bndW) 11 _
  have hvW : ¬ v.ownBlock = some W := fun e => by
    rcases hat with e2 | e2
    · rw [e2] at e; exact h.bndW e
    · rw [e2] at e; cases e; have := lt_of_block h.blk; omega
  have key : ∀ o', Ext w o o' → Z w5 o' → (∀ j, v.ownBlock = some j → o' j = cl 16 2) → ∃ o', Wb w0 o0 c W cb { r with bv := v } k (m + 1) (w5.setCell ⟨W, 11, none⟩ v) o' := by
    intro o' hE hZ hv
    refine ⟨o', hbk, by rw [hE W (lt_of_block h.blk)]; exact h.ob, h.wl, Chg.keep G2 h.box (n0 cb h.oc), by rw [hE cb (lt_of_block h.box)]; exact h.oc, h.near.step hE G2 n0, h.hops.step hE G2 n0,
      own_chg h.row G2 (fun j hj => nj 1 (by omega) (by omega) (by omega) j (h.rowo j hj).1), fun j hj => by rw [hE j (own_inS h.row hj).2]; exact h.rowo j hj, ?_, fun j hj => ⟨hv j hj, ?_⟩,
      h.inj.keep G2 (nj 3 (by omega) (by omega) (by omega) _ h.injo), by rw [hE _ h.inj.lt]; exact h.injo, h.ev, fun i hi => ?_, hZ.more gs.size, h.ext.trans hE h.chg.size, ?_⟩
    · have := own_chg hrow gs (fun j hj e => hvW (e ▸ hj))
      rw [List.replicate_succ', List.map_append]
      exact this
    · rcases hat with e | e
      · rw [e] at hj; exact (h.bndo j hj).2
      · rw [e] at hj; cases hj; exact h.chg.size
    · obtain ⟨b, q, h1, h2⟩ := h.nd i hi
      exact ⟨b, q, h1, h2.step hE G2 n0 (nm i (by omega))⟩
    · exact chg_past h.chg G2 (fun j hj => by
        rcases hj with hj | hj
        · exact (h.bndo j hj).2
        · rw [hj]; exact h.wl)
  rcases hat with e | e
  · exact key o (Ext.refl _ _) (h.z.more G.size) (fun j hj => (h.bndo j (e ▸ hj)).1)
  · refine key (cls o w.heap.size (cl 16 2)) (Ext.cls o _ _ (Nat.le_refl _)) ((h.z.more G.size).cls _ ?_) (fun j hj => by rw [e] at hj; cases hj; exact cls_at _ _ _)
    exact (own_inS hrow e).2
def newW (c : Cfg) : WM := ⟨(List.range c.nodes).map newN, (List.replicate c.nodes (-1)).set 0 0, [], [], []⟩
theorem newW_nd (c : Cfg) (i : Nat) (hi : i < c.nodes) : (newW c).nd i = newN i := by
  unfold newW WM.nd
  simp [List.getD_eq_getElem?_getD, List.getElem?_map, List.getElem?_range hi]
/-- the world is built. -/
theorem Wb.done (h : Wb w0 o0 c W cb r c.nodes c.nodes w o) (hc : CfgOk c) {g cap : Nat} (hg : r.bv = .slice (some ⟨g, 0, none⟩) c.nodes cap) :
    Wd (w.setCell ⟨g, 0, none⟩ (.int .i64 0)) o c W r (newW c) 0 ∧ Z (w.setCell ⟨g, 0, none⟩ (.int .i64 0)) o ∧ Ext w0 o0 o ∧ Chg (fun _ => False) w0 (w.setCell ⟨g, 0, none⟩ (.int .i64 0)) := by
  have hn0 := hc.n0
  have hn1 := hc.n1
  have G := chg1 w g 0 (.int .i64 0)
  have hog := h.bndo g (by rw [hg]; rfl)
  obtain ⟨n0, nj, nm⟩ := two_no (S := fun j => j = g) (o := o) (t := 2) (by omega) (fun j hj => .inl (by rw [hj]; exact hog.1))
  have hgW : ¬ W = g := fun e => by have h1 := hog.1; rw [← e, h.ob] at h1; have := (cl_inj h1 (by omega) (by omega)).2; omega
  have hb := h.bnd
  rw [hg] at hb
  have hb2 := own_set hb 0 (.int .i64 0) (by omega)
  refine ⟨⟨Chg.keep G h.blk hgW, h.ob, h.near.step (Ext.refl _ _) G n0, h.hops.step (Ext.refl _ _) G n0, own_chg h.row G (fun j hj => nj 1 (by omega) (by omega) (by omega) j (h.rowo j hj).1), fun j hj => (h.rowo j hj).1,
    ?_, fun j hj => (h.bndo j hj).1, h.inj.keep G (nj 3 (by omega) (by omega) (by omega) _ h.injo), h.injo, ?_, by unfold newW; simp, fun i hi => ?_⟩, h.z.more G.size, h.ext, chg_past h.chg G (fun j hj => by rw [hj]; exact hog.2)⟩
  · rw [hg]
    have e : List.map VI (newW c).bound = (List.map VI (List.replicate c.nodes (-1))).set 0 (.int .i64 0) := by unfold newW; rw [List.map_set]; rfl
    rw [e]; exact hb2
  · rw [h.ev]; exact Eo.nil _ _ _
  · obtain ⟨b, q, h1, h2⟩ := h.nd i hi
    rw [newW_nd c i hi]
    exact ⟨b, q, h1, h2.step (Ext.refl _ _) G n0 (nm i (by omega))⟩
end
end Go.Proofs.YtnpihllannobgaaGreatDoor
