/- A new world. A world that is made; rows alike. No condition. -/
import Derived.Test.YtnpihllannobgaaGreatDoorG31
namespace Go.Proofs.YtnpihllannobgaaGreatDoor
set_option linter.unusedVariables false
set_option linter.unusedSimpArgs false
open Go.ChangeShapes Go.WideShapes Go.ChangeAt Go.RowKit

/-- append of one value that lies in a block of its own. -/
theorem appRun1 {t e bytes : Nat} (he : ElS t e 1 bytes) (ty : TypeId) (wp : World) (u : Value) (v : Value) (n : Nat) (xs : List Value) (hown : (wp.alloc (.cells #[u] e)).ownsRow 0 e 1 v n xs) (h1 : u.oneCell' = true) (hby : bytes ≤ 100) (hn : n ≤ 1000) :
    ∃ v' w', (Builtin.append_ #[t, t] ty #[v, .slice (some ⟨wp.heap.size, 0, none⟩) 1 1]).run Tryz.prog (wp.alloc (.cells #[u] e)) = .ok v' w' ∧ w'.ownsRow 0 e 1 v' (n + 1) (xs ++ [u]) ∧ (wp.alloc (.cells #[u] e)).grownBy w' v.ownBlock ∧
      (v'.ownBlock = v.ownBlock ∨ v'.ownBlock = some (wp.heap.size + 1)) := by
  obtain ⟨ht, i, z, h1i, h2i, h3i, h4i, h5i, h6i⟩ := he
  have h7 : (n + 1) * bytes ≤ (n + 1) * 100 := Nat.mul_le_mul_left _ hby
  obtain ⟨v', w', a1, a2, a3, _, a5⟩ := run_append_own_at (P := Tryz.prog) (wp.alloc (.cells #[u] e)) 0 t ty e i z 1 bytes ht h1i h2i h3i h4i h5i h6i v n xs hown ⟨wp.heap.size, 0, none⟩ 1 1 [u] rfl (cell_one_new _ _ _) (fun x hx => by simp at hx; subst hx; exact h1)
    (by unfold maxLen; omega) (by omega) (Nat.zero_le _)
  exact ⟨v', w', a1, a2, a3, by simpa using a5⟩
section
variable {w0 w w' : World} {o0 o o' : Cls} {c : Cfg} {W cb k m : Nat} {r r' : WR} {S : Nat → Prop}
theorem wp_app1N {o : Oper} {a : Act} {w w' : World} {K : Act → World → Prop} {Q : Exit → Act → World → Prop} {t : TypeId} (s x : Operand) (ho : o.op = .call { callee := .builtin .append, args := #[s, x], argTypes := #[t, t] }) {v u v' : Value} (hs : a.eval s = v) (hx : a.eval x = u)
    (hr : (Builtin.append_ #[t, t] o.type #[v, u]).run Tryz.prog w = .ok v' w') (h : K (a.put o.dst v') w') : o.wp Tryz.prog a w K Q := by
  unfold Oper.wp execOp
  simp only [ho, resolve, invoke, builtin, Sem.run_bind, Sem.run_pure, Result.andThen_ok, List.map_toArray, List.map_cons, List.map_nil, hs, hx, hr]
  exact h
def objW (c : Cfg) (nv hv : Value) (mb : Nat) : Obj :=
  .cells #[.int .i64 c.nodes, nv, hv, .int .i64 c.guard, .int .i64 c.err, .int .i64 c.keep, .int .i64 c.loss, .int .i64 c.queue, .int .i64 c.life, .slice none 0 0, .int .i64 0, .slice none 0 0, .map (some mb), .slice none 0 0] 61
theorem Wb.start {wx : World} {nv hv : Value} (hz : Z w o) (hb : wx.heap[cb]? = some (.cells #[.int .i64 c.nodes, nv, hv, .int .i64 c.guard, .int .i64 c.err, .int .i64 c.keep, .int .i64 c.loss, .int .i64 c.queue, .int .i64 c.life] 26 (0, 0)))
    (hcb : w.heap.size ≤ cb) (hn : RV VU wx o nv c.near) (hh : RV VI wx o hv c.hops) (g : Chg (fun _ => False) w wx) :
    ∃ o', Wb w o c (wx.heap.size + 1) cb ⟨nv, hv, .slice none 0 0, .slice none 0 0, wx.heap.size, .slice none 0 0, []⟩ 0 0 ((wx.alloc (.map #[] 0)).alloc (objW c nv hv wx.heap.size)) o' := by
  have g1 := Chg.alloc (fun _ => False) wx (.map #[] 0)
  have g2 := Chg.alloc (fun _ => False) (wx.alloc (.map #[] 0)) (objW c nv hv wx.heap.size)
  have hsz : (wx.alloc (.map #[] 0)).heap.size = wx.heap.size + 1 := by simp
  have hsz2 : ((wx.alloc (.map #[] 0)).alloc (objW c nv hv wx.heap.size)).heap.size = wx.heap.size + 2 := by simp
  have hs := g.size
  have hl := lt_of_block hb
  have e1 := Ext.cls (w := w) o wx.heap.size (cl 16 3) hs
  have e2 := Ext.cls (w := w) (cls o wx.heap.size (cl 16 3)) (wx.heap.size + 1) (cl 16 0) (by omega)
  have f1 := Ext.cls (w := wx) o wx.heap.size (cl 16 3) (Nat.le_refl _)
  have f2 := Ext.cls (w := wx) (cls o wx.heap.size (cl 16 3)) (wx.heap.size + 1) (cl 16 0) (by omega)
  have fE := f1.trans f2 (Nat.le_refl _)
  have G := g1.trans g2
  refine ⟨cls (cls o wx.heap.size (cl 16 3)) (wx.heap.size + 1) (cl 16 0), ?_, cls_at _ _ _, by omega, Chg.keep G hb (fun e => e), ?_, hn.step fE G (fun _ _ e => e), hh.step fE G (fun _ _ e => e), World.ownsRow_nil _ _ _ _,
    fun j hj => by (cases hj), World.ownsRow_nil _ _ _ _, fun j hj => by (cases hj), (Mp.made wx).keep g2 (fun e => e), ?_, rfl, fun i hi => absurd hi (Nat.not_lt_zero _), ?_, e1.trans e2 (Nat.le_refl _), g.trans G⟩
  · have := block_alloc (wx.alloc (.map #[] 0)) (objW c nv hv wx.heap.size)
    rw [hsz] at this
    exact this
  · rw [cls_ne _ _ _ (by omega), cls_ne _ _ _ (by omega)]; exact hz cb hcb
  · show cls (cls o wx.heap.size (cl 16 3)) (wx.heap.size + 1) (cl 16 0) wx.heap.size = cl 16 3
    rw [cls_ne _ _ _ (by omega)]; exact cls_at _ _ _
  · refine Z.cls (Z.cls (hz.more (by omega)) _ (by omega)) _ (by omega)
/-- a new world. -/
def PWNew (w : World) (o : Cls) (c : Cfg) (en : Ending) (w' : World) : Prop :=
  ∃ W o' r, en = .returned (.tuple #[VP W, .int .i64 0]) ∧ Wd w' o' c W r (newW c) 0 ∧ Z w' o' ∧ Ext w o o' ∧ Chg (fun _ => False) w w'
set_option maxRecDepth 100000 in
set_option maxHeartbeats 16000000 in
theorem wnew_any (hc : CfgOk c) (hz : Z w o) (nv hv : Value) (hn : RV VU w o nv c.near) (hh : RV VI w o hv c.hops) : Calls Tryz.prog 17 #[cfgV c nv hv] w (PWNew w o c) := by
  have ga := Chg.alloc (fun _ => False) w (cfgB c nv hv)
  have hb := block_alloc w (cfgB c nv hv)
  unfold cfgB at hb ga
  have HM := Lib.hid (nmay_any hc nv hv (hn.keep ga (fun _ _ e => e)) (hh.keep ga (fun _ _ e => e)))
  obtain ⟨d0, d1, d2, d3, d4, d5, d6, d7, d8⟩ := cell9 hb
  have HW := Lib.hid (show ∀ W, Chg (fun _ => False) w W → RV VU W o nv c.near ∧ RV VI W o hv c.hops from fun W g => ⟨hn.keep g (fun _ _ e => e), hh.keep g (fun _ _ e => e)⟩)
  have HB := Lib.hid (And.intro hb ga)
  have HZ := Lib.hid hz
  have HC := Lib.hid hc
  have hn1 := hc.n1
  have hn0 := hc.n0
  obtain ⟨nA, ncap, hnv, _⟩ := hn
  obtain ⟨hA, hcap, hhv, _⟩ := hh
  obtain ⟨nl, hnl⟩ : ∃ n, n = c.near.length := ⟨_, rfl⟩
  obtain ⟨hl, hhl⟩ : ∃ n, n = c.hops.length := ⟨_, rfl⟩
  rw [← hnl] at hnv
  rw [← hhl] at hhv
  subst hnv hhv
  clear hnl hhl
  unfold cfgV at HM ⊢
  clear hb ga hz hc
  go_enter Tryz.func17, Tryz.ntmps17
  go_wp2_with fail
  (with_reducible refine HM.out.mono ?_)
  rintro en w1 ⟨rfl, hG⟩
  have hb2 := Chg.keep hG HB.out.1 (fun e => e)
  have HG2 := Lib.hid (HB.out.2.trans hG)
  obtain ⟨cb, hcb⟩ : ∃ x, x = w.heap.size := ⟨_, rfl⟩
  rw [← hcb] at hb2 ⊢
  have HCB := Lib.hid hcb
  clear d0 d1 d2 d3 d4 d5 d6 d7 d8 hG HB HM hcb
  obtain ⟨d0, d1, d2, d3, d4, d5, d6, d7, d8⟩ := cell9 hb2
  have HB2 := Lib.hid hb2
  clear hb2
  go_wp2_with fail
  have HF1 := Lib.hid (show ∀ W, Chg (fun _ => False) w1 W → W.heap[cb]? = some (.cells #[.int .i64 c.nodes, .slice nA nl ncap, .slice hA hl hcap, .int .i64 c.guard, .int .i64 c.err, .int .i64 c.keep, .int .i64 c.loss, .int .i64 c.queue, .int .i64 c.life] 26 (0, 0)) from fun W g => Chg.keep (S := fun _ => False) g HB2.out (fun e => e))
  have HCU := Lib.hid (show ∀ W, Chg (fun _ => False) w1 W → Calls Tryz.prog 28 #[.slice nA nl ncap] W (PNew VU 23 W c.near) from fun W g => by
    obtain ⟨A, cc, e, h1, h2, _⟩ := (HW.out W (HG2.out.trans g)).1
    cases e
    exact cloneU_any W nA c.near.length ncap c.near h1.rs h2 (by rw [HC.out.near]; omega))
  have HCI := Lib.hid (show ∀ W, Chg (fun _ => False) w1 W → Calls Tryz.prog 29 #[.slice hA hl hcap] W (PNew VI 3 W c.hops) from fun W g => by
    obtain ⟨A, cc, e, h1, h2, _⟩ := (HW.out W (HG2.out.trans g)).2
    cases e
    exact cloneI_any W hA c.hops.length hcap c.hops h1.rs h2 (by have := HC.out.hops.2.2.2; omega))
  go_cut [] (fun wx => NBox w w1 o c cb wx)
  case first =>
    go_region_with (first
      | (go_at_call 28; refine (HCU.out _ (Chg.drew _ w1)).mono ?_; rintro en wp ⟨v1, rfl, O1, g1⟩
         obtain ⟨A1, n1, c1, rfl⟩ : ∃ A n c, v1 = .slice A n c := by rcases own_val O1 with ⟨e, _⟩ | ⟨g, cap, e, _⟩ <;> exact ⟨_, _, _, e⟩
         have O1 := Lib.hid O1
         have HG3 := Lib.hid ((Chg.drew (fun _ => False) w1).trans g1)
         have hbp := HF1.out _ HG3.out
         obtain ⟨d0, d1, d2, d3, d4, d5, d6, d7, d8⟩ := cell9 hbp
         have fp1 := frozen_of_block hbp 1
         have fp2 := frozen_of_block hbp 2)
      | (go_at_call 29; refine (HCI.out _ HG3.out).mono ?_; rintro en wq ⟨v2, rfl, O2, g2⟩
         obtain ⟨A2, n2, c2, rfl⟩ : ∃ A n c, v2 = .slice A n c := by rcases own_val O2 with ⟨e, _⟩ | ⟨g, cap, e, _⟩ <;> exact ⟨_, _, _, e⟩
         have O2 := Lib.hid O2
         have HG4 := Lib.hid (HG3.out.trans g2)
         have hbq := HF1.out _ HG4.out
         obtain ⟨d0, d1, d2, d3, d4, d5, d6, d7, d8⟩ := cell9 hbq
         have fq1 := frozen_of_block hbq 1
         have fq2 := frozen_of_block hbq 2))
    all_goals
      go_wp2_with fail
      go_meet
      exact NBox.mk' HZ.out HG2.out HB2.out HG3.out g2 O1.out O2.out hbq (by rw [HCB.out]; exact Nat.le_refl _)
  case rest =>
    obtain ⟨v1, v2, hb3, hn3, hh3, hG3⟩ := hcut
    obtain ⟨o1, hW⟩ := Wb.start HZ.out hb3 (by rw [HCB.out]; exact Nat.le_refl _) hn3 hh3 hG3
    obtain ⟨⟨A1, c1, hv1, _⟩, ⟨A2, c2, hv2, _⟩⟩ := And.intro hn3 hh3
    obtain ⟨n1, hn1'⟩ : ∃ n, n = c.near.length := ⟨_, rfl⟩
    obtain ⟨n2, hn2'⟩ : ∃ n, n = c.hops.length := ⟨_, rfl⟩
    rw [← hn1'] at hv1
    rw [← hn2'] at hv2
    subst hv1 hv2
    obtain ⟨d0, d1, d2, d3, d4, d5, d6, d7, d8⟩ := cell9 hb3
    have hlc := lt_of_block hb3
    have HWb := Lib.hid hW
    have hmm := @run_makeMap Tryz.prog
    have d0' : ((wc.alloc (.map #[] 0)).alloc (objW c (.slice A1 n1 c1) (.slice A2 n2 c2) wc.heap.size)).cell? ⟨cb, 0, none⟩ = some (.int .i64 c.nodes) := (cell9 hW.box).1
    unfold objW at d0'
    clear hb3 hn3 hh3 hG3 HF1 HCU HCI HB2 HG2 HW hn1' hn2' hW
    go_wp2_with fail
    have ho : objW c (.slice A1 n1 c1) (.slice A2 n2 c2) wc.heap.size = .cells #[.int .i64 c.nodes, .slice A1 n1 c1, .slice A2 n2 c2, .int .i64 c.guard, .int .i64 c.err, .int .i64 c.keep, .int .i64 c.loss, .int .i64 c.queue, .int .i64 c.life, .slice none 0 0, .int .i64 0, .slice none 0 0, .map (some wc.heap.size), .slice none 0 0] 61 := rfl
    rw [ho] at HWb
    generalize ((wc.alloc (.map #[] 0)).alloc (.cells #[.int .i64 c.nodes, .slice A1 n1 c1, .slice A2 n2 c2, .int .i64 c.guard, .int .i64 c.err, .int .i64 c.keep, .int .i64 c.loss, .int .i64 c.queue, .int .i64 c.life, .slice none 0 0, .int .i64 0, .slice none 0 0, .map (some wc.heap.size), .slice none 0 0] 61)) = ws at *
    obtain ⟨W, hWe⟩ : ∃ W, W = wc.heap.size + 1 := ⟨_, rfl⟩
    rw [← hWe] at HWb ⊢
    clear d0 d1 d2 d3 d4 d5 d6 d7 d8 hlc d0' ho hWe
    go_loopw [23] (fun i wr => ∃ (q : Nat), q ≤ c.nodes ∧ i = .int .i64 q ∧ ∃ o' r', Wb w o c W cb r' q q wr o') (fun i _ => c.nodes - (intOf i).toNat)
    case atStart => exact ⟨0, by omega, rfl, o1, _, HWb.out⟩
    case round =>
      obtain ⟨q, hq, rfl, o2, r2, hA⟩ := hrel
      by_cases hlt : q < c.nodes
      · have i1 : (q : Int) < (c.nodes : Int) := by omega
        obtain ⟨lA, lcap, hlv⟩ := hA.lval
        obtain ⟨bA, bcap, hbv⟩ := hA.bval
        have HA := Lib.hid (And.intro hA (And.intro hlv hbv))
        have hD := hA.kept (Chg.drew _ wr)
        have c9 : wr.drew.cell? ⟨W, 9, none⟩ = some (.slice lA q lcap) := by rw [← hlv]; exact hD.cell 9
        obtain ⟨e0, e1, e2, e3, e4, e5, e6, e7, e8⟩ := cell9 hD.box
        have HN := Lib.hid (nnew_any HC.out q hlt hD.z r2.nv r2.hv hD.near hD.hops)
        unfold cfgV at HN
        clear hA hlv hbv hD
        go_wp2_with fail
        refine wp_region_any (by kernel_rfl) ?_
        change wpAny _ _ _ _ _ _ _ (World.drew _)
        refine wpAny_take (i := 0) (v := .pointer (some ⟨W, 0, none⟩)) rfl (by kernel_rfl) (by kernel_rfl) (by kernel_rfl) (fun _ _ _ h => h) (Or.inl ⟨by rfl, fun w => by go_simp⟩) ?_
        refine wpAny_take (i := 1) (v := .pointer (some ⟨W, 0, none⟩)) rfl (by kernel_rfl) (by kernel_rfl) (by kernel_rfl) (fun _ _ _ h => h) (Or.inl ⟨by rfl, fun w => by go_simp⟩) ?_
        refine wpAny_take (i := 2) (v := .pointer (some ⟨W, 0, none⟩)) rfl (by kernel_rfl) (by kernel_rfl) (by kernel_rfl) (fun _ _ _ h => h) (Or.inl ⟨by rfl, fun w => by go_simp⟩) ?_
        refine wpAny_take (i := 3) (v := .pointer (some ⟨W, 9, none⟩)) rfl (by kernel_rfl) (by kernel_rfl) (by kernel_rfl) (fun _ _ _ h => h) (Or.inl ⟨by rfl, fun w => by go_simp⟩) ?_
        refine wpAny_take (i := 6) (v := .int .i64 q) rfl (by kernel_rfl) (by kernel_rfl) (by kernel_rfl) (fun _ _ _ h => h) (Or.inl ⟨by rfl, fun w => by go_simp⟩) ?_
        refine wpAny_ready (rs := [4, 5]) (by kernel_rfl) (by simp) ?_
        refine AllReady.cons rfl (fun K hK => ?_) (AllReady.cons rfl (fun K hK => ?_) AllReady.nil)
        · go_simp
          with_reducible refine hK _ _ ?_
          clear hK K
          refine wpAny_ready (rs := [5]) (by kernel_rfl) (by simp) ?_
          refine AllReady.cons rfl (fun K hK => ?_) AllReady.nil
          go_simp
          with_reducible refine hK _ _ ?_
          clear hK K
          refine wpAny_ready (rs := [7]) (by kernel_rfl) (by simp) ?_
          refine AllReady.cons rfl (fun K hK => ?_) AllReady.nil
          go_simp
          (with_reducible refine HN.out.mono ?_)
          rintro en wp ⟨nb, o3, nr, hen, hlo, he, hz, hnd, g5, hcl⟩
          unfold VP at hen
          subst hen
          dsimp only
          with_reducible refine hK _ _ ?_
          clear hK K
          have hP := (HA.out.1.kept (Chg.drew _ wr)).same he hz g5
          have hPa := hP.kept (Chg.alloc (fun _ => False) wp (.cells #[.pointer (some ⟨nb, 0, none⟩)] 36))
          have hNa := hnd.kept (Chg.alloc (fun _ => False) wp (.cells #[.pointer (some ⟨nb, 0, none⟩)] 36))
          have p9 : wp.cell? ⟨W, 9, none⟩ = some (.slice lA q lcap) := by rw [← HA.out.2.1]; exact hP.cell 9
          have q9 : (wp.alloc (.cells #[.pointer (some ⟨nb, 0, none⟩)] 36)).cell? ⟨W, 9, none⟩ = some (.slice lA q lcap) := by rw [← HA.out.2.1]; exact hPa.cell 9
          obtain ⟨v5, w5, k1, k2, k3, k4⟩ := appRun1 ElN 57 wp (.pointer (some ⟨nb, 0, none⟩)) (.slice lA q lcap) q (r2.bs.map VP) (by rw [← HA.out.2.1]; exact hPa.row) rfl (by decide) (by omega)
          obtain ⟨vA, vcap, rfl⟩ : ∃ A cap, v5 = .slice A (q + 1) cap := by
            rcases own_val k2 with ⟨e, h1, _⟩ | ⟨g, cap, e, _⟩
            · omega
            · exact ⟨_, _, e⟩
          have G5 : Chg (fun j => r2.lv.ownBlock = some j) (wp.alloc (.cells #[.pointer (some ⟨nb, 0, none⟩)] 36)) w5 := chg_grown k3 (fun j e => by rw [HA.out.2.1]; exact e)
          have hb5 := Chg.keep G5 hPa.blk hPa.rowW
          have c9' : w5.cell? ⟨W, 9, none⟩ = some (.slice lA q lcap) := by rw [cell_of_block hb5, ← HA.out.2.1]; rfl
          have f9' := frozen_of_block hb5 9
          have HX := Lib.hid (hPa.node hn1 hlt hNa (v := .slice vA (q + 1) vcap) (w5 := w5) G5 k2 (by rw [HA.out.2.1]; simpa using k4))
          clear hlo he hz hnd g5 hcl hP hPa hNa k2 k3 k4 G5 hb5 c9 e0 e1 e2 e3 e4 e5 e6 e7 e8
          refine wpAny_ready (rs := [8]) (by kernel_rfl) (by simp) ?_
          refine AllReady.cons rfl (fun K hK => ?_) AllReady.nil
          go_simp
          with_reducible refine hK _ _ ?_
          clear hK K
          refine wpAny_ready (rs := [9]) (by kernel_rfl) (by simp) ?_
          refine AllReady.cons rfl (fun K hK => ?_) AllReady.nil
          rw [if_pos (by rfl)]
          with_reducible refine wp_app1N (.tmp 30) (.tmp 34) rfl rfl rfl k1 (hK _ _ ?_)
          clear hK K
          refine wpAny_take (i := 10) (v := .pointer (some ⟨W, 0, none⟩)) rfl (by kernel_rfl) (by kernel_rfl) (by kernel_rfl) (fun _ _ _ h => h) (Or.inl ⟨by rfl, fun w => by go_simp⟩) ?_
          refine wpAny_take (i := 11) (v := .pointer (some ⟨W, 9, none⟩)) rfl (by kernel_rfl) (by kernel_rfl) (by kernel_rfl) (fun _ _ _ h => h) (Or.inl ⟨by rfl, fun w => by go_simp⟩) ?_
          refine wpAny_ready (rs := [12]) (by kernel_rfl) (by simp) ?_
          refine AllReady.cons rfl (fun K hK => ?_) AllReady.nil
          go_simp
          with_reducible refine hK _ _ ?_
          clear hK K
          refine wpAny_done (by kernel_rfl) ?_ _
          obtain ⟨o6, h6⟩ := HX.out
          have c11 : (w5.setCell ⟨W, 9, none⟩ (.slice vA (q + 1) vcap)).cell? ⟨W, 11, none⟩ = some (.slice bA q bcap) := by rw [← HA.out.2.2]; exact h6.cell 11
          have H6 := Lib.hid h6
          clear HX HN p9 q9 k1 c9' f9' h6
          generalize w5.setCell ⟨W, 9, none⟩ (.slice vA (q + 1) vcap) = w6 at *
          go_wp2_with (at_builtin; go_loud (refine app1S ElI8 rfl (.tmp 42) (.tmp 43) rfl 0 (.slice bA q bcap) q ((List.replicate q (-1 : Int)).map VI) rfl (by rw [← HA.out.2.2]; exact (H6.out.kept (Chg.alloc _ _ _)).bnd) w6.heap.size [.int .i64 (-1)] rfl (block_alloc w6 _) rfl (by decide) (by decide) (by omega) (Nat.zero_le _) ?grow))
          case grow =>
            intro v7 w7 k2 k3 k4
            obtain ⟨yA, ycap, rfl⟩ : ∃ A cap, v7 = .slice A (q + 1) cap := by
              rcases own_val k2 with ⟨e, h1, _⟩ | ⟨g, cap, e, _⟩
              · omega
              · exact ⟨_, _, e⟩
            have hPa := H6.out.kept (Chg.alloc (fun _ => False) w6 (.cells #[.int .i64 (-1)] 2))
            have G5 : Chg (fun j => r2.bv.ownBlock = some j) (w6.alloc (.cells #[.int .i64 (-1)] 2)) w7 := chg_grown k3 (fun j e => by rw [HA.out.2.2]; exact e)
            have hb5 := Chg.keep G5 hPa.blk hPa.bndW
            have c11' : w7.cell? ⟨W, 11, none⟩ = some (.slice bA q bcap) := by rw [cell_of_block hb5, ← HA.out.2.2]; rfl
            have f11' := frozen_of_block hb5 11
            have HX := Lib.hid (hPa.bound hn1 (by omega) (v := .slice yA (q + 1) ycap) (w5 := w7) G5 (by simpa using k2) (by rw [HA.out.2.2]; simpa using k4))
            clear hPa G5 hb5 k2 k3 k4 c11
            go_wp2_with fail
            go_roundw
            case measure => simp [intOf]; omega
            case rel =>
              obtain ⟨o7, h7⟩ := HX.out
              exact ⟨q + 1, by omega, by go_num, o7, _, h7⟩
        · go_simp
          with_reducible refine hK _ _ ?_
          clear hK K
          refine wpAny_ready (rs := [4, 7]) (by kernel_rfl) (by simp) ?_
          refine AllReady.cons rfl (fun K hK => ?_) (AllReady.cons rfl (fun K hK => ?_) AllReady.nil)
          · go_simp
            with_reducible refine hK _ _ ?_
            clear hK K
            refine wpAny_ready (rs := [7]) (by kernel_rfl) (by simp) ?_
            refine AllReady.cons rfl (fun K hK => ?_) AllReady.nil
            go_simp
            (with_reducible refine HN.out.mono ?_)
            rintro en wp ⟨nb, o3, nr, hen, hlo, he, hz, hnd, g5, hcl⟩
            unfold VP at hen
            subst hen
            dsimp only
            with_reducible refine hK _ _ ?_
            clear hK K
            have hP := (HA.out.1.kept (Chg.drew _ wr)).same he hz g5
            have hPa := hP.kept (Chg.alloc (fun _ => False) wp (.cells #[.pointer (some ⟨nb, 0, none⟩)] 36))
            have hNa := hnd.kept (Chg.alloc (fun _ => False) wp (.cells #[.pointer (some ⟨nb, 0, none⟩)] 36))
            have p9 : wp.cell? ⟨W, 9, none⟩ = some (.slice lA q lcap) := by rw [← HA.out.2.1]; exact hP.cell 9
            have q9 : (wp.alloc (.cells #[.pointer (some ⟨nb, 0, none⟩)] 36)).cell? ⟨W, 9, none⟩ = some (.slice lA q lcap) := by rw [← HA.out.2.1]; exact hPa.cell 9
            obtain ⟨v5, w5, k1, k2, k3, k4⟩ := appRun1 ElN 57 wp (.pointer (some ⟨nb, 0, none⟩)) (.slice lA q lcap) q (r2.bs.map VP) (by rw [← HA.out.2.1]; exact hPa.row) rfl (by decide) (by omega)
            obtain ⟨vA, vcap, rfl⟩ : ∃ A cap, v5 = .slice A (q + 1) cap := by
              rcases own_val k2 with ⟨e, h1, _⟩ | ⟨g, cap, e, _⟩
              · omega
              · exact ⟨_, _, e⟩
            have G5 : Chg (fun j => r2.lv.ownBlock = some j) (wp.alloc (.cells #[.pointer (some ⟨nb, 0, none⟩)] 36)) w5 := chg_grown k3 (fun j e => by rw [HA.out.2.1]; exact e)
            have hb5 := Chg.keep G5 hPa.blk hPa.rowW
            have c9' : w5.cell? ⟨W, 9, none⟩ = some (.slice lA q lcap) := by rw [cell_of_block hb5, ← HA.out.2.1]; rfl
            have f9' := frozen_of_block hb5 9
            have HX := Lib.hid (hPa.node hn1 hlt hNa (v := .slice vA (q + 1) vcap) (w5 := w5) G5 k2 (by rw [HA.out.2.1]; simpa using k4))
            clear hlo he hz hnd g5 hcl hP hPa hNa k2 k3 k4 G5 hb5 c9 e0 e1 e2 e3 e4 e5 e6 e7 e8
            refine wpAny_ready (rs := [8]) (by kernel_rfl) (by simp) ?_
            refine AllReady.cons rfl (fun K hK => ?_) AllReady.nil
            go_simp
            with_reducible refine hK _ _ ?_
            clear hK K
            refine wpAny_ready (rs := [9]) (by kernel_rfl) (by simp) ?_
            refine AllReady.cons rfl (fun K hK => ?_) AllReady.nil
            rw [if_pos (by rfl)]
            with_reducible refine wp_app1N (.tmp 30) (.tmp 34) rfl rfl rfl k1 (hK _ _ ?_)
            clear hK K
            refine wpAny_take (i := 10) (v := .pointer (some ⟨W, 0, none⟩)) rfl (by kernel_rfl) (by kernel_rfl) (by kernel_rfl) (fun _ _ _ h => h) (Or.inl ⟨by rfl, fun w => by go_simp⟩) ?_
            refine wpAny_take (i := 11) (v := .pointer (some ⟨W, 9, none⟩)) rfl (by kernel_rfl) (by kernel_rfl) (by kernel_rfl) (fun _ _ _ h => h) (Or.inl ⟨by rfl, fun w => by go_simp⟩) ?_
            refine wpAny_ready (rs := [12]) (by kernel_rfl) (by simp) ?_
            refine AllReady.cons rfl (fun K hK => ?_) AllReady.nil
            go_simp
            with_reducible refine hK _ _ ?_
            clear hK K
            refine wpAny_done (by kernel_rfl) ?_ _
            obtain ⟨o6, h6⟩ := HX.out
            have c11 : (w5.setCell ⟨W, 9, none⟩ (.slice vA (q + 1) vcap)).cell? ⟨W, 11, none⟩ = some (.slice bA q bcap) := by rw [← HA.out.2.2]; exact h6.cell 11
            have H6 := Lib.hid h6
            clear HX HN p9 q9 k1 c9' f9' h6
            generalize w5.setCell ⟨W, 9, none⟩ (.slice vA (q + 1) vcap) = w6 at *
            go_wp2_with (at_builtin; go_loud (refine app1S ElI8 rfl (.tmp 42) (.tmp 43) rfl 0 (.slice bA q bcap) q ((List.replicate q (-1 : Int)).map VI) rfl (by rw [← HA.out.2.2]; exact (H6.out.kept (Chg.alloc _ _ _)).bnd) w6.heap.size [.int .i64 (-1)] rfl (block_alloc w6 _) rfl (by decide) (by decide) (by omega) (Nat.zero_le _) ?grow))
            case grow =>
              intro v7 w7 k2 k3 k4
              obtain ⟨yA, ycap, rfl⟩ : ∃ A cap, v7 = .slice A (q + 1) cap := by
                rcases own_val k2 with ⟨e, h1, _⟩ | ⟨g, cap, e, _⟩
                · omega
                · exact ⟨_, _, e⟩
              have hPa := H6.out.kept (Chg.alloc (fun _ => False) w6 (.cells #[.int .i64 (-1)] 2))
              have G5 : Chg (fun j => r2.bv.ownBlock = some j) (w6.alloc (.cells #[.int .i64 (-1)] 2)) w7 := chg_grown k3 (fun j e => by rw [HA.out.2.2]; exact e)
              have hb5 := Chg.keep G5 hPa.blk hPa.bndW
              have c11' : w7.cell? ⟨W, 11, none⟩ = some (.slice bA q bcap) := by rw [cell_of_block hb5, ← HA.out.2.2]; rfl
              have f11' := frozen_of_block hb5 11
              have HX := Lib.hid (hPa.bound hn1 (by omega) (v := .slice yA (q + 1) ycap) (w5 := w7) G5 (by simpa using k2) (by rw [HA.out.2.2]; simpa using k4))
              clear hPa G5 hb5 k2 k3 k4 c11
              go_wp2_with fail
              go_roundw
              case measure => simp [intOf]; omega
              case rel =>
                obtain ⟨o7, h7⟩ := HX.out
                exact ⟨q + 1, by omega, by go_num, o7, _, h7⟩
          · go_simp
            (with_reducible refine HN.out.mono ?_)
            rintro en wp ⟨nb, o3, nr, hen, hlo, he, hz, hnd, g5, hcl⟩
            unfold VP at hen
            subst hen
            dsimp only
            with_reducible refine hK _ _ ?_
            clear hK K
            have hP := (HA.out.1.kept (Chg.drew _ wr)).same he hz g5
            have hPa := hP.kept (Chg.alloc (fun _ => False) wp (.cells #[.pointer (some ⟨nb, 0, none⟩)] 36))
            have hNa := hnd.kept (Chg.alloc (fun _ => False) wp (.cells #[.pointer (some ⟨nb, 0, none⟩)] 36))
            have p9 : wp.cell? ⟨W, 9, none⟩ = some (.slice lA q lcap) := by rw [← HA.out.2.1]; exact hP.cell 9
            have q9 : (wp.alloc (.cells #[.pointer (some ⟨nb, 0, none⟩)] 36)).cell? ⟨W, 9, none⟩ = some (.slice lA q lcap) := by rw [← HA.out.2.1]; exact hPa.cell 9
            obtain ⟨v5, w5, k1, k2, k3, k4⟩ := appRun1 ElN 57 wp (.pointer (some ⟨nb, 0, none⟩)) (.slice lA q lcap) q (r2.bs.map VP) (by rw [← HA.out.2.1]; exact hPa.row) rfl (by decide) (by omega)
            obtain ⟨vA, vcap, rfl⟩ : ∃ A cap, v5 = .slice A (q + 1) cap := by
              rcases own_val k2 with ⟨e, h1, _⟩ | ⟨g, cap, e, _⟩
              · omega
              · exact ⟨_, _, e⟩
            have G5 : Chg (fun j => r2.lv.ownBlock = some j) (wp.alloc (.cells #[.pointer (some ⟨nb, 0, none⟩)] 36)) w5 := chg_grown k3 (fun j e => by rw [HA.out.2.1]; exact e)
            have hb5 := Chg.keep G5 hPa.blk hPa.rowW
            have c9' : w5.cell? ⟨W, 9, none⟩ = some (.slice lA q lcap) := by rw [cell_of_block hb5, ← HA.out.2.1]; rfl
            have f9' := frozen_of_block hb5 9
            have HX := Lib.hid (hPa.node hn1 hlt hNa (v := .slice vA (q + 1) vcap) (w5 := w5) G5 k2 (by rw [HA.out.2.1]; simpa using k4))
            clear hlo he hz hnd g5 hcl hP hPa hNa k2 k3 k4 G5 hb5 c9 e0 e1 e2 e3 e4 e5 e6 e7 e8
            refine wpAny_ready (rs := [4, 8]) (by kernel_rfl) (by simp) ?_
            refine AllReady.cons rfl (fun K hK => ?_) (AllReady.cons rfl (fun K hK => ?_) AllReady.nil)
            · go_simp
              with_reducible refine hK _ _ ?_
              clear hK K
              refine wpAny_ready (rs := [8]) (by kernel_rfl) (by simp) ?_
              refine AllReady.cons rfl (fun K hK => ?_) AllReady.nil
              go_simp
              with_reducible refine hK _ _ ?_
              clear hK K
              refine wpAny_ready (rs := [9]) (by kernel_rfl) (by simp) ?_
              refine AllReady.cons rfl (fun K hK => ?_) AllReady.nil
              rw [if_pos (by rfl)]
              with_reducible refine wp_app1N (.tmp 30) (.tmp 34) rfl rfl rfl k1 (hK _ _ ?_)
              clear hK K
              refine wpAny_take (i := 10) (v := .pointer (some ⟨W, 0, none⟩)) rfl (by kernel_rfl) (by kernel_rfl) (by kernel_rfl) (fun _ _ _ h => h) (Or.inl ⟨by rfl, fun w => by go_simp⟩) ?_
              refine wpAny_take (i := 11) (v := .pointer (some ⟨W, 9, none⟩)) rfl (by kernel_rfl) (by kernel_rfl) (by kernel_rfl) (fun _ _ _ h => h) (Or.inl ⟨by rfl, fun w => by go_simp⟩) ?_
              refine wpAny_ready (rs := [12]) (by kernel_rfl) (by simp) ?_
              refine AllReady.cons rfl (fun K hK => ?_) AllReady.nil
              go_simp
              with_reducible refine hK _ _ ?_
              clear hK K
              refine wpAny_done (by kernel_rfl) ?_ _
              obtain ⟨o6, h6⟩ := HX.out
              have c11 : (w5.setCell ⟨W, 9, none⟩ (.slice vA (q + 1) vcap)).cell? ⟨W, 11, none⟩ = some (.slice bA q bcap) := by rw [← HA.out.2.2]; exact h6.cell 11
              have H6 := Lib.hid h6
              clear HX HN p9 q9 k1 c9' f9' h6
              generalize w5.setCell ⟨W, 9, none⟩ (.slice vA (q + 1) vcap) = w6 at *
              go_wp2_with (at_builtin; go_loud (refine app1S ElI8 rfl (.tmp 42) (.tmp 43) rfl 0 (.slice bA q bcap) q ((List.replicate q (-1 : Int)).map VI) rfl (by rw [← HA.out.2.2]; exact (H6.out.kept (Chg.alloc _ _ _)).bnd) w6.heap.size [.int .i64 (-1)] rfl (block_alloc w6 _) rfl (by decide) (by decide) (by omega) (Nat.zero_le _) ?grow))
              case grow =>
                intro v7 w7 k2 k3 k4
                obtain ⟨yA, ycap, rfl⟩ : ∃ A cap, v7 = .slice A (q + 1) cap := by
                  rcases own_val k2 with ⟨e, h1, _⟩ | ⟨g, cap, e, _⟩
                  · omega
                  · exact ⟨_, _, e⟩
                have hPa := H6.out.kept (Chg.alloc (fun _ => False) w6 (.cells #[.int .i64 (-1)] 2))
                have G5 : Chg (fun j => r2.bv.ownBlock = some j) (w6.alloc (.cells #[.int .i64 (-1)] 2)) w7 := chg_grown k3 (fun j e => by rw [HA.out.2.2]; exact e)
                have hb5 := Chg.keep G5 hPa.blk hPa.bndW
                have c11' : w7.cell? ⟨W, 11, none⟩ = some (.slice bA q bcap) := by rw [cell_of_block hb5, ← HA.out.2.2]; rfl
                have f11' := frozen_of_block hb5 11
                have HX := Lib.hid (hPa.bound hn1 (by omega) (v := .slice yA (q + 1) ycap) (w5 := w7) G5 (by simpa using k2) (by rw [HA.out.2.2]; simpa using k4))
                clear hPa G5 hb5 k2 k3 k4 c11
                go_wp2_with fail
                go_roundw
                case measure => simp [intOf]; omega
                case rel =>
                  obtain ⟨o7, h7⟩ := HX.out
                  exact ⟨q + 1, by omega, by go_num, o7, _, h7⟩
            · go_simp
              with_reducible refine hK _ _ ?_
              clear hK K
              refine wpAny_ready (rs := [4]) (by kernel_rfl) (by simp) ?_
              refine AllReady.cons rfl (fun K hK => ?_) AllReady.nil
              go_simp
              with_reducible refine hK _ _ ?_
              clear hK K
              refine wpAny_ready (rs := [9]) (by kernel_rfl) (by simp) ?_
              refine AllReady.cons rfl (fun K hK => ?_) AllReady.nil
              rw [if_pos (by rfl)]
              with_reducible refine wp_app1N (.tmp 30) (.tmp 34) rfl rfl rfl k1 (hK _ _ ?_)
              clear hK K
              refine wpAny_take (i := 10) (v := .pointer (some ⟨W, 0, none⟩)) rfl (by kernel_rfl) (by kernel_rfl) (by kernel_rfl) (fun _ _ _ h => h) (Or.inl ⟨by rfl, fun w => by go_simp⟩) ?_
              refine wpAny_take (i := 11) (v := .pointer (some ⟨W, 9, none⟩)) rfl (by kernel_rfl) (by kernel_rfl) (by kernel_rfl) (fun _ _ _ h => h) (Or.inl ⟨by rfl, fun w => by go_simp⟩) ?_
              refine wpAny_ready (rs := [12]) (by kernel_rfl) (by simp) ?_
              refine AllReady.cons rfl (fun K hK => ?_) AllReady.nil
              go_simp
              with_reducible refine hK _ _ ?_
              clear hK K
              refine wpAny_done (by kernel_rfl) ?_ _
              obtain ⟨o6, h6⟩ := HX.out
              have c11 : (w5.setCell ⟨W, 9, none⟩ (.slice vA (q + 1) vcap)).cell? ⟨W, 11, none⟩ = some (.slice bA q bcap) := by rw [← HA.out.2.2]; exact h6.cell 11
              have H6 := Lib.hid h6
              clear HX HN p9 q9 k1 c9' f9' h6
              generalize w5.setCell ⟨W, 9, none⟩ (.slice vA (q + 1) vcap) = w6 at *
              go_wp2_with (at_builtin; go_loud (refine app1S ElI8 rfl (.tmp 42) (.tmp 43) rfl 0 (.slice bA q bcap) q ((List.replicate q (-1 : Int)).map VI) rfl (by rw [← HA.out.2.2]; exact (H6.out.kept (Chg.alloc _ _ _)).bnd) w6.heap.size [.int .i64 (-1)] rfl (block_alloc w6 _) rfl (by decide) (by decide) (by omega) (Nat.zero_le _) ?grow))
              case grow =>
                intro v7 w7 k2 k3 k4
                obtain ⟨yA, ycap, rfl⟩ : ∃ A cap, v7 = .slice A (q + 1) cap := by
                  rcases own_val k2 with ⟨e, h1, _⟩ | ⟨g, cap, e, _⟩
                  · omega
                  · exact ⟨_, _, e⟩
                have hPa := H6.out.kept (Chg.alloc (fun _ => False) w6 (.cells #[.int .i64 (-1)] 2))
                have G5 : Chg (fun j => r2.bv.ownBlock = some j) (w6.alloc (.cells #[.int .i64 (-1)] 2)) w7 := chg_grown k3 (fun j e => by rw [HA.out.2.2]; exact e)
                have hb5 := Chg.keep G5 hPa.blk hPa.bndW
                have c11' : w7.cell? ⟨W, 11, none⟩ = some (.slice bA q bcap) := by rw [cell_of_block hb5, ← HA.out.2.2]; rfl
                have f11' := frozen_of_block hb5 11
                have HX := Lib.hid (hPa.bound hn1 (by omega) (v := .slice yA (q + 1) ycap) (w5 := w7) G5 (by simpa using k2) (by rw [HA.out.2.2]; simpa using k4))
                clear hPa G5 hb5 k2 k3 k4 c11
                go_wp2_with fail
                go_roundw
                case measure => simp [intOf]; omega
                case rel =>
                  obtain ⟨o7, h7⟩ := HX.out
                  exact ⟨q + 1, by omega, by go_num, o7, _, h7⟩
      · obtain rfl : q = c.nodes := by omega
        obtain ⟨g, cap, cur, hbv, _⟩ := own_pos hA.bnd (by omega)
        have c11 : wr.cell? ⟨W, 11, none⟩ = some (.slice (some ⟨g, 0, none⟩) c.nodes cap) := by rw [← hbv]; exact hA.cell 11
        have hbn := hA.bnd
        rw [hbv] at hbn
        have cg : wr.cell? ⟨g, 0, none⟩ = some (.int .i64 (-1)) := own_cell hbn 0 _ (by
          rw [List.getElem?_map, List.getElem?_replicate, if_pos (by omega)]; rfl)
        have fg := own_frozen hbn 0
        have i0 : (0 : Int) < (c.nodes : Int) := by omega
        have HD := Lib.hid (hA.done HC.out hbv)
        clear hA hbv hbn hq hlt
        go_wp2_with fail
        go_ret2
        obtain ⟨h1, h2, h3, h4⟩ := HD.out
        exact ⟨W, o2, r2, rfl, h1, h2, h3, h4⟩
end
end Go.Proofs.YtnpihllannobgaaGreatDoor
namespace Go.Proofs.YtnpihllannobgaaGreatDoor
set_option linter.unusedVariables false
set_option linter.unusedSimpArgs false
open Go.ChangeShapes Go.WideShapes Go.ChangeAt Go.RowKit

def PMade (w : World) (o : Cls) (c : Cfg) (en : Ending) (w' : World) : Prop :=
  ∃ W o' r, en = .returned (VP W) ∧ Wd w' o' c W r (newW c) 0 ∧ Z w' o' ∧ Ext w o o' ∧ Chg (fun _ => False) w w'
section
variable {w0 w w' : World} {o0 o o' : Cls} {c : Cfg} {W cb k m : Nat} {r r' : WR} {S : Nat → Prop}
set_option maxRecDepth 100000 in
theorem made_any (hc : CfgOk c) (hz : Z w o) (nv hv : Value) (hn : RV VU w o nv c.near) (hh : RV VI w o hv c.hops) : Calls Tryz.prog 6 #[cfgV c nv hv] w (PMade w o c) := by
  have ga := Chg.alloc (fun _ => False) w (cfgB c nv hv)
  have hb := block_alloc w (cfgB c nv hv)
  have HM := Lib.hid (wnew_any hc (hz.more ga.size) nv hv (hn.keep ga (fun _ _ e => e)) (hh.keep ga (fun _ _ e => e)))
  unfold cfgB at hb ga HM
  have HG := Lib.hid ga
  obtain ⟨d0, d1, d2, d3, d4, d5, d6, d7, d8⟩ := cell9 hb
  obtain ⟨nA, ncap, hnv, _⟩ := hn
  obtain ⟨hA, hcap, hhv, _⟩ := hh
  obtain ⟨nl, hnl⟩ : ∃ n, n = c.near.length := ⟨_, rfl⟩
  obtain ⟨hl, hhl⟩ : ∃ n, n = c.hops.length := ⟨_, rfl⟩
  rw [← hnl] at hnv
  rw [← hhl] at hhv
  subst hnv hhv
  clear hnl hhl
  unfold cfgV at HM ⊢
  clear hb ga hz hc
  go_enter Tryz.func6, Tryz.ntmps6
  go_wp2_with fail
  (with_reducible refine HM.out.mono ?_)
  rintro en w1 ⟨W, o1, r1, rfl, h1, h2, h3, h4⟩
  have H1 := Lib.hid (And.intro h1 (And.intro h2 (And.intro h3 h4)))
  clear h1 h2 h3 h4 d0 d1 d2 d3 d4 d5 d6 d7 d8 HM
  unfold VP
  go_wp2_with fail
  go_ret
  obtain ⟨h1, h2, h3, h4⟩ := H1.out
  have hs := HG.out.size
  exact ⟨W, o1, r1, rfl, h1, h2, fun k hk => h3 k (by omega), HG.out.trans h4⟩
set_option maxRecDepth 100000 in
theorem sameints_any (w : World) (A1 A2 : Option Addr) (n1 c1 n2 c2 B1 B2 : Nat) (L1 L2 : List Int) (h1 : Rs VI w B1 A1 n1 L1) (h2 : Rs VI w B2 A2 n2 L2) (hl : n1 ≤ 1000) :
    Calls Tryz.prog 11 #[.slice A1 n1 c1, .slice A2 n2 c2] w (PV (.bool (decide (L1 = L2))) w) := by
  have e1 := h1.1
  have e2 := h2.1
  by_cases hn : n1 = n2
  · subst hn
    have HS := Lib.hid (And.intro h1 h2)
    clear h1 h2
    have b1 : ((n1 : Int) != (n1 : Int)) = false := by simp
    go_enter Tryz.func11, Tryz.ntmps11
    go_wp2_with fail
    go_loopw [13] (fun i wr => ∃ (k : Nat), k ≤ n1 ∧ i = .int .i64 k ∧ Chg (fun _ => False) w wr ∧ L1.take k = L2.take k) (fun i _ => n1 - (intOf i).toNat)
    case atStart => exact ⟨0, by omega, rfl, Chg.refl _ _, rfl⟩
    case round =>
      obtain ⟨k, hk, rfl, hg, hT⟩ := hrel
      by_cases hlt : k < n1
      · have k1 := HS.out.1.keep hg (fun _ _ e => e)
        have k2 := HS.out.2.keep hg (fun _ _ e => e)
        obtain ⟨p1, z1, hp1, hb1, hz1, hc1⟩ := k1.at hlt
        obtain ⟨p2, z2, hp2, hb2, hz2, hc2⟩ := k2.at hlt
        subst hp1 hp2
        unfold VI at hc1 hc2
        have i1 : (k : Int) < (n1 : Int) := by omega
        have HG := Lib.hid hg
        have HT := Lib.hid (And.intro hT (And.intro hz1 hz2))
        have c1' : wr.drew.cell? (p1.add k) = some (.int .i64 z1) := hc1
        have c2' : wr.drew.cell? (p2.add k) = some (.int .i64 z2) := hc2
        clear k1 k2 hg hT hz1 hz2
        go_wp2_with fail
        by_cases hz : z1 = z2
        · have b2 : (z1 != z2) = false := by simp [hz]
          with_reducible refine wp_region_still_lit (by kernel_rfl) (by kernel_rfl) ?_
          repeat (with_reducible refine wpStill_step (fun K hK => ?_); go_simp; with_reducible refine hK _ ?_; clear hK K)
          with_reducible refine wpStill_nil ?_
          change Exit.then _ _ _ _ wr.drew
          go_wp2_with fail
          go_roundw
          case measure => simp [intOf]; omega
          case rel =>
            obtain ⟨t1, t2, t3⟩ := HT.out
            refine ⟨k + 1, by omega, by go_num, HG.out.trans (Chg.drew _ _), ?_⟩
            rw [List.take_add_one, List.take_add_one, t1, t2, t3, hz]
        · have b2 : (z1 != z2) = true := by simp [hz]
          have hne : L1 ≠ L2 := fun e => by
            obtain ⟨t1, t2, t3⟩ := HT.out
            rw [e, t3] at t2; cases t2; exact hz rfl
          with_reducible refine wp_region_still_lit (by kernel_rfl) (by kernel_rfl) ?_
          repeat (with_reducible refine wpStill_step (fun K hK => ?_); go_simp; with_reducible refine hK _ ?_; clear hK K)
          with_reducible refine wpStill_nil ?_
          change Exit.then _ _ _ _ wr.drew
          go_wp2_with fail
          go_ret
          exact ⟨by rw [decide_eq_false hne]; rfl, HG.out.trans (Chg.drew _ _)⟩
      · obtain rfl : k = n1 := by omega
        have he : L1 = L2 := by
          rw [List.take_of_length_le (by omega), List.take_of_length_le (by omega)] at hT
          exact hT
        have HG := Lib.hid hg
        clear hg hT
        go_wp2_with fail
        go_ret
        exact ⟨by rw [decide_eq_true he]; rfl, HG.out⟩
  · have hne : L1 ≠ L2 := fun e => hn (by rw [← e1, ← e2, e])
    rw [decide_eq_false hne]
    have b1 : ((n1 : Int) != (n2 : Int)) = true := by simp; omega
    clear h1 h2 hne
    go_enter Tryz.func11, Tryz.ntmps11
    go_wp2_with fail
    go_ret
    exact ⟨rfl, Chg.refl _ _⟩
end
end Go.Proofs.YtnpihllannobgaaGreatDoor
