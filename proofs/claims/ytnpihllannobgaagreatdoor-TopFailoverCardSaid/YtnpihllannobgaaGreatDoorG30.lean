/- A new node. A node begins anew. A world lets a node begin anew. No condition. -/
import Derived.Test.YtnpihllannobgaaGreatDoorG29
import Derived.Test.YtnpihllannobgaaGreatDoorG12
import Derived.Deep.RegionHeld3
import Derived.Deep.MidRow
namespace Go.Proofs.YtnpihllannobgaaGreatDoor
set_option linter.unusedVariables false
set_option linter.unusedSimpArgs false
open Go.ChangeShapes Go.WideShapes Go.ChangeAt Go.RowKit

theorem ownN_nd {o : Cls} {i b ck q u1 m1 u2 m2 u3 m3 pm k : Nat} (h0 : o k = 0) (h : ownN o i b ck q u1 m1 u2 m2 u3 m3 pm k ≠ 0) : NdS (ownN o i b ck q u1 m1 u2 m2 u3 m3 pm) i k := by
  have h2 : ownN o i b ck q u1 m1 u2 m2 u3 m3 pm k = cl i 0 ∨ ownN o i b ck q u1 m1 u2 m2 u3 m3 pm k = cl i 1 ∨ ownN o i b ck q u1 m1 u2 m2 u3 m3 pm k = cl i 2 ∨ ownN o i b ck q u1 m1 u2 m2 u3 m3 pm k = cl i 3 ∨ ownN o i b ck q u1 m1 u2 m2 u3 m3 pm k = cl i 4 ∨ ownN o i b ck q u1 m1 u2 m2 u3 m3 pm k = cl i 5 ∨ ownN o i b ck q u1 m1 u2 m2 u3 m3 pm k = cl i 8 ∨ ownN o i b ck q u1 m1 u2 m2 u3 m3 pm k = 0 := by
    unfold ownN
    repeat' split
    all_goals simp [h0]
  rcases h2 with e | e | e | e | e | e | e | e
  · exact ⟨0, by omega, e⟩
  · exact ⟨1, by omega, e⟩
  · exact ⟨2, by omega, e⟩
  · exact ⟨3, by omega, e⟩
  · exact ⟨4, by omega, e⟩
  · exact ⟨5, by omega, e⟩
  · exact ⟨8, by omega, e⟩
  · exact absurd e h
section
variable {w0 w w' : World} {o0 o o' : Cls} {c : Cfg}
/-- the config's copy, with slices of its own. -/
def NBox (w w2 : World) (o : Cls) (c : Cfg) (cb : Nat) (wx : World) : Prop :=
  ∃ nv hv, wx.heap[cb]? = some (.cells #[.int .i64 c.nodes, nv, hv, .int .i64 c.guard, .int .i64 c.err, .int .i64 c.keep, .int .i64 c.loss, .int .i64 c.queue, .int .i64 c.life] 26 (0, 0)) ∧
    RV VU wx o nv c.near ∧ RV VI wx o hv c.hops ∧ Chg (fun _ => False) w wx
theorem NBox.mk' {w1 wp wq : World} {cb n1 c1 n2 c2 : Nat} {A1 A2 : Option Addr} {u1 u2 : Value} (hz : Z w o) (hG2 : Chg (fun _ => False) w w1) (hb2 : w1.heap[cb]? = some (.cells #[.int .i64 c.nodes, u1, u2, .int .i64 c.guard, .int .i64 c.err, .int .i64 c.keep, .int .i64 c.loss, .int .i64 c.queue, .int .i64 c.life] 26 (0, 0)))
    (hG3 : Chg (fun _ => False) w1 wp) (g2 : Chg (fun _ => False) wp wq) (O1 : wp.ownsRow w1.heap.size 23 1 (.slice A1 n1 c1) c.near.length (c.near.map VU)) (O2 : wq.ownsRow wp.heap.size 3 1 (.slice A2 n2 c2) c.hops.length (c.hops.map VI))
    (hbq : wq.heap[cb]? = some (.cells #[.int .i64 c.nodes, u1, u2, .int .i64 c.guard, .int .i64 c.err, .int .i64 c.keep, .int .i64 c.loss, .int .i64 c.queue, .int .i64 c.life] 26 (0, 0))) (hcb : w.heap.size ≤ cb) :
    NBox w w1 o c cb ((wq.setCell ⟨cb, 1, none⟩ (.slice A1 n1 c1)).setCell ⟨cb, 2, none⟩ (.slice A2 n2 c2)) := by
  have G : Chg (fun k => k = cb) wq ((wq.setCell ⟨cb, 1, none⟩ (.slice A1 n1 c1)).setCell ⟨cb, 2, none⟩ (.slice A2 n2 c2)) := (chg1 _ _ _ _).trans (chg1 _ _ _ _)
  have hl := lt_of_block hb2
  have s1 := hG2.size
  have s2 := hG3.size
  have hO1 := own_chg (own_chg O1 g2 (fun _ _ e => e)) G (fun k hk e => by have := (own_in O1 hk).1; omega)
  have hO2 := own_chg O2 G (fun k hk e => by have := (own_in O2 hk).1; omega)
  refine ⟨_, _, block_set (block_set hbq 1 _) 2 _, RV.of_own hO1 (fun k hk => hz k (by omega)), RV.of_own hO2 (fun k hk => hz k (by omega)), ?_⟩
  exact (((hG2.trans hG3).trans g2).none.trans (G.mono (fun k _ e => (by omega : w.heap.size ≤ k)))).fresh
theorem PNode.mk {W3 WF : World} {i b ck q u1 m1 u2 m2 u3 m3 pm : Nat} {nv hv : Value} (hz : Z w o) (hG3 : Chg (fun _ => False) w W3) (hn : RV VU W3 o nv c.near) (hh : RV VI W3 o hv c.hops) (hG : Chg (fun _ => False) W3 WF)
    (hB : NodeB W3 WF b ck q u1 m1 u2 m2 u3 m3 pm) (h1 : Ck WF ck 0 0 0) (h2 : Qb WF q c.queue (.slice none 0 0) 0 []) (h3 : Wk WF u1 m1 (fun _ => none)) (h4 : Wk WF u2 m2 (fun _ => none)) (h5 : Wk WF u3 m3 (fun _ => none)) (h6 : Mp WF pm (fun _ => none))
    (hb : WF.heap[b]? = some (.cells (cellsN c i (newR nv hv ck q u1 u2 u3 pm) (newN i)) 75 (0, 0))) : PNode w o c i (.returned (.pointer (some ⟨b, 0, none⟩))) WF := by
  have hz3 : Z W3 o := hz.more hG3.size
  obtain ⟨k1, k2, k3⟩ := Nd.made hz3 hG hB hn hh h1 h2 h3 h4 h5 h6 hb
  have s1 := hG3.size
  have s2 := (hB.lo b (by simp)).1
  exact ⟨b, _, _, rfl, by omega, fun k hk => k1 k (by omega), k2, k3, hG3.trans hG, fun k hk h0 => ownN_nd (hz k hk) h0⟩
theorem PNode.mk2 {W3 WF : World} {i b ck q u1 m1 u2 m2 u3 m3 : Nat} {nv hv : Value} (hz : Z w o) (hG3 : Chg (fun _ => False) w W3) (hn : RV VU W3 o nv c.near) (hh : RV VI W3 o hv c.hops) (hG : Chg (fun _ => False) W3 WF)
    (h1 : Ck WF ck 0 0 0) (h2 : Qb WF q c.queue (.slice none 0 0) 0 []) (h3 : Wk WF u1 m1 (fun _ => none)) (h4 : Wk WF u2 m2 (fun _ => none)) (h5 : Wk WF u3 m3 (fun _ => none))
    (h6 : ∃ pm, Mp WF pm (fun _ => none) ∧ NodeB W3 WF b ck q u1 m1 u2 m2 u3 m3 pm ∧ WF.heap[b]? = some (.cells (cellsN c i (newR nv hv ck q u1 u2 u3 pm) (newN i)) 75 (0, 0))) : PNode w o c i (.returned (.pointer (some ⟨b, 0, none⟩))) WF := by
  obtain ⟨pm, h6, hB, hb⟩ := h6
  exact PNode.mk hz hG3 hn hh hG hB h1 h2 h3 h4 h5 h6 hb
set_option maxRecDepth 100000 in
set_option maxHeartbeats 16000000 in
theorem nnew_any (hc : CfgOk c) (i : Nat) (hi : i < c.nodes) (hz : Z w o) (nv hv : Value) (hn : RV VU w o nv c.near) (hh : RV VI w o hv c.hops) : Calls Tryz.prog 30 #[cfgV c nv hv, .int .i64 i] w (PNode w o c i) := by
  have ga := Chg.alloc (fun _ => False) w (cfgB c nv hv)
  have hb := block_alloc w (cfgB c nv hv)
  unfold cfgB at hb ga
  have HM := Lib.hid (nmay_any hc nv hv (hn.keep ga (fun _ _ e => e)) (hh.keep ga (fun _ _ e => e)))
  have HI := Lib.hid (fun W => nin_yes i 0 ((c.nodes : Int) - 1) (by omega) (by omega) W)
  obtain ⟨d0, d1, d2, d3, d4, d5, d6, d7, d8⟩ := cell9 hb
  have HW := Lib.hid (show ∀ W, Chg (fun _ => False) w W → RV VU W o nv c.near ∧ RV VI W o hv c.hops from fun W g => ⟨hn.keep g (fun _ _ e => e), hh.keep g (fun _ _ e => e)⟩)
  have HB := Lib.hid (And.intro hb ga)
  have HZ := Lib.hid hz
  have HC := Lib.hid hc
  have hn1 := hc.n1
  have hn0 := hc.n0
  have e1 : IntKind.i64.wrap ((c.nodes : Int) - 1) = (c.nodes : Int) - 1 := IntWalk.i64_in _ (by omega)
  obtain ⟨nA, ncap, hnv, _⟩ := hn
  obtain ⟨hA, hcap, hhv, _⟩ := hh
  obtain ⟨nl, hnl⟩ : ∃ n, n = c.near.length := ⟨_, rfl⟩
  obtain ⟨hl, hhl⟩ : ∃ n, n = c.hops.length := ⟨_, rfl⟩
  rw [← hnl] at hnv
  rw [← hhl] at hhv
  subst hnv hhv
  clear hnl hhl
  unfold cfgV at HM ⊢
  clear hb ga hz hc
  go_enter Tryz.func30, Tryz.ntmps30
  go_wp2_with fail
  (with_reducible refine HM.out.mono ?_)
  rintro en w2 ⟨rfl, hG⟩
  have hb2 := Chg.keep hG HB.out.1 (fun e => e)
  have HG2 := Lib.hid (HB.out.2.trans hG)
  obtain ⟨cb, hcb⟩ : ∃ x, x = w.heap.size := ⟨_, rfl⟩
  rw [← hcb] at hb2 ⊢
  have HCB := Lib.hid hcb
  clear d0 d1 d2 d3 d4 d5 d6 d7 d8 hG HB HM hcb
  obtain ⟨d0, d1, d2, d3, d4, d5, d6, d7, d8⟩ := cell9 hb2
  have HB2 := Lib.hid hb2
  clear hb2
  go_wp2_with fail
  (with_reducible refine (HI.out _).mono ?_)
  rintro en w1 ⟨rfl, rfl⟩
  go_wp2_with fail
  have HF1 := Lib.hid (show ∀ W, Chg (fun _ => False) w1 W → W.heap[cb]? = some (.cells #[.int .i64 c.nodes, .slice nA nl ncap, .slice hA hl hcap, .int .i64 c.guard, .int .i64 c.err, .int .i64 c.keep, .int .i64 c.loss, .int .i64 c.queue, .int .i64 c.life] 26 (0, 0)) from fun W g => Chg.keep (S := fun _ => False) g HB2.out (fun e => e))
  have HCU := Lib.hid (show ∀ W, Chg (fun _ => False) w1 W → Calls Tryz.prog 28 #[.slice nA nl ncap] W (PNew VU 23 W c.near) from fun W g => by
    obtain ⟨A, cc, e, h1, h2, _⟩ := (HW.out W (HG2.out.trans g)).1
    cases e
    exact cloneU_any W nA c.near.length ncap c.near h1.rs h2 (by rw [HC.out.near]; omega))
  have HCI := Lib.hid (show ∀ W, Chg (fun _ => False) w1 W → Calls Tryz.prog 29 #[.slice hA hl hcap] W (PNew VI 3 W c.hops) from fun W g => by
    obtain ⟨A, cc, e, h1, h2, _⟩ := (HW.out W (HG2.out.trans g)).2
    cases e
    exact cloneI_any W hA c.hops.length hcap c.hops h1.rs h2 (by have := HC.out.hops.2.2.2; omega))

  go_cut [] (fun wx => NBox w w1 o c cb wx)
  case first =>
    go_region_with (first
      | (go_at_call 28; refine (HCU.out _ (Chg.drew _ w1)).mono ?_; rintro en wp ⟨v1, rfl, O1, g1⟩
         obtain ⟨A1, n1, c1, rfl⟩ : ∃ A n c, v1 = .slice A n c := by rcases own_val O1 with ⟨e, _⟩ | ⟨g, cap, e, _⟩ <;> exact ⟨_, _, _, e⟩
         have O1 := Lib.hid O1
         have HG3 := Lib.hid ((Chg.drew (fun _ => False) w1).trans g1)
         have hbp := HF1.out _ HG3.out
         obtain ⟨d0, d1, d2, d3, d4, d5, d6, d7, d8⟩ := cell9 hbp
         have fp1 := frozen_of_block hbp 1
         have fp2 := frozen_of_block hbp 2)
      | (go_at_call 29; refine (HCI.out _ HG3.out).mono ?_; rintro en wq ⟨v2, rfl, O2, g2⟩
         obtain ⟨A2, n2, c2, rfl⟩ : ∃ A n c, v2 = .slice A n c := by rcases own_val O2 with ⟨e, _⟩ | ⟨g, cap, e, _⟩ <;> exact ⟨_, _, _, e⟩
         have O2 := Lib.hid O2
         have HG4 := Lib.hid (HG3.out.trans g2)
         have hbq := HF1.out _ HG4.out
         obtain ⟨d0, d1, d2, d3, d4, d5, d6, d7, d8⟩ := cell9 hbq
         have fq1 := frozen_of_block hbq 1
         have fq2 := frozen_of_block hbq 2))
    all_goals
      go_wp2_with fail
      go_meet
      exact NBox.mk' HZ.out HG2.out HB2.out HG3.out g2 O1.out O2.out hbq (by rw [HCB.out]; exact Nat.le_refl _)
  case rest =>
    obtain ⟨v1, v2, hb3, hn3, hh3, hG3⟩ := hcut
    have HW3 := Lib.hid (And.intro hn3 (And.intro hh3 hG3))
    obtain ⟨⟨A1, c1, hv1, _⟩, ⟨A2, c2, hv2, _⟩⟩ := And.intro hn3 hh3
    obtain ⟨n1, hn1'⟩ : ∃ n, n = c.near.length := ⟨_, rfl⟩
    obtain ⟨n2, hn2'⟩ : ∃ n, n = c.hops.length := ⟨_, rfl⟩
    rw [← hn1'] at hv1
    rw [← hn2'] at hv2
    subst hv1 hv2
    obtain ⟨d0, d1, d2, d3, d4, d5, d6, d7, d8⟩ := cell9 hb3
    have HB3 := Lib.hid hb3
    have hlc := lt_of_block hb3
    have HS := Lib.hid (show ∀ W, Chg (fun _ => False) wc W → W.cell? ⟨cb, 0, none⟩ = some (.int .i64 c.nodes) ∧ W.cell? ⟨cb, 1, none⟩ = some (.slice A1 n1 c1) ∧ W.cell? ⟨cb, 2, none⟩ = some (.slice A2 n2 c2) ∧ W.cell? ⟨cb, 3, none⟩ = some (.int .i64 c.guard) ∧ W.cell? ⟨cb, 4, none⟩ = some (.int .i64 c.err) ∧ W.cell? ⟨cb, 5, none⟩ = some (.int .i64 c.keep) ∧ W.cell? ⟨cb, 6, none⟩ = some (.int .i64 c.loss) ∧ W.cell? ⟨cb, 7, none⟩ = some (.int .i64 c.queue) ∧ W.cell? ⟨cb, 8, none⟩ = some (.int .i64 c.life) from fun W g => cell9 (Chg.keep (S := fun _ => False) g HB3.out (fun e => e)))
    have HK := Lib.hid (fun W => cknew_any W)
    have HQ := Lib.hid (fun W => qnew_any c.queue HC.out.q.1 HC.out.q.2 W)
    have HD := Lib.hid (fun W => dupnew_any W)
    clear hb3 hn3 hh3 hG3 HF1 HCU HCI HB2 HG2 HW hn1' hn2'
    go_wp2_with fail
    have hmm := @run_makeMap Tryz.prog
    go_region_held3 (fun W => W.cell? ⟨cb, 0, none⟩ = some (.int .i64 c.nodes) ∧ W.cell? ⟨cb, 1, none⟩ = some (.slice A1 n1 c1) ∧ W.cell? ⟨cb, 2, none⟩ = some (.slice A2 n2 c2) ∧ W.cell? ⟨cb, 3, none⟩ = some (.int .i64 c.guard) ∧ W.cell? ⟨cb, 4, none⟩ = some (.int .i64 c.err) ∧ W.cell? ⟨cb, 5, none⟩ = some (.int .i64 c.keep) ∧ W.cell? ⟨cb, 6, none⟩ = some (.int .i64 c.loss) ∧ W.cell? ⟨cb, 7, none⟩ = some (.int .i64 c.queue) ∧ W.cell? ⟨cb, 8, none⟩ = some (.int .i64 c.life))
      (((with_reducible refine HS.out _ ?_); repeat (first | with_reducible exact Chg.drew _ _ | with_reducible exact Chg.refl _ _ | (with_reducible refine Chg.trans ?_ (Chg.drew _ _)) | (with_reducible refine Chg.trans ?_ (Chg.alloc _ _ _)) | (with_reducible refine Chg.trans ?_ g5) | (with_reducible refine Chg.trans ?_ g4) | (with_reducible refine Chg.trans ?_ g3) | (with_reducible refine Chg.trans ?_ g2) | (with_reducible refine Chg.trans ?_ g1))))
      (first
      | (go_at_call 50; refine (HK.out _).mono ?_; rintro en y1 ⟨ck, rfl, hK, hlk, g1⟩; have HK1 := Lib.hid (And.intro hK hlk))
      | (go_at_call 51; refine (HQ.out _).mono ?_; rintro en y2 ⟨qb, rfl, hQ, hlq, g2⟩; have HQ1 := Lib.hid (And.intro hQ hlq))
      | (have hu2 := HU2; go_at_call 52; refine (HD.out _).mono ?_; rintro en y5 ⟨u3, m3, rfl, hU, hlu, hlm, hxu, hxm, g5⟩; have HU3 := Lib.hid (And.intro hU (And.intro hlu (And.intro hlm (And.intro hxu hxm)))))
      | (have hu1 := HU1; go_at_call 52; refine (HD.out _).mono ?_; rintro en y4 ⟨u2, m2, rfl, hU, hlu, hlm, hxu, hxm, g4⟩; have HU2 := Lib.hid (And.intro hU (And.intro hlu (And.intro hlm (And.intro hxu hxm)))))
      | (go_at_call 52; refine (HD.out _).mono ?_; rintro en y3 ⟨u1, m1, rfl, hU, hlu, hlm, hxu, hxm, g3⟩; have HU1 := Lib.hid (And.intro hU (And.intro hlu (And.intro hlm (And.intro hxu hxm))))))
    all_goals
      go_wp2_with fail
      go_ret
      have lK := lt_of_block hK
      have lQ := lt_of_block hQ.blk
      obtain ⟨hU1, a1, a2, a3, a4⟩ := HU1.out
      obtain ⟨hU2, b1, b2, b3, b4⟩ := HU2.out
      have n1 := hU1.2.2
      have n2 := hU2.2.2
      have n3 := hU.2.2
      have s1 := g1.size
      have s2 := g2.size
      have s3 := g3.size
      have s4 := g4.size
      have s5 := g5.size
      have hdr : ∀ w : World, w.drew.heap.size = w.heap.size := fun _ => rfl
      simp [hdr] at hlk hlq a1 a2 b1 b2 hlu hlm s1 s2 s3 s4 s5
      refine PNode.mk2 HZ.out HW3.out.2.2 HW3.out.1 HW3.out.2.1 (by repeat (first | with_reducible exact Chg.refl _ _ | (with_reducible refine Chg.trans ?_ (Chg.drew _ _)) | (with_reducible refine Chg.trans ?_ (Chg.alloc _ _ _)) | (with_reducible refine Chg.trans ?_ g5) | (with_reducible refine Chg.trans ?_ g4) | (with_reducible refine Chg.trans ?_ g3) | (with_reducible refine Chg.trans ?_ g2) | (with_reducible refine Chg.trans ?_ g1))) (hK.kept (by repeat (first | with_reducible exact Chg.refl _ _ | (with_reducible refine Chg.trans ?_ (Chg.drew _ _)) | (with_reducible refine Chg.trans ?_ (Chg.alloc _ _ _)) | (with_reducible refine Chg.trans ?_ g5) | (with_reducible refine Chg.trans ?_ g4) | (with_reducible refine Chg.trans ?_ g3) | (with_reducible refine Chg.trans ?_ g2) | (with_reducible refine Chg.trans ?_ g1)))) (hQ.kept (by repeat (first | with_reducible exact Chg.refl _ _ | (with_reducible refine Chg.trans ?_ (Chg.drew _ _)) | (with_reducible refine Chg.trans ?_ (Chg.alloc _ _ _)) | (with_reducible refine Chg.trans ?_ g5) | (with_reducible refine Chg.trans ?_ g4) | (with_reducible refine Chg.trans ?_ g3) | (with_reducible refine Chg.trans ?_ g2) | (with_reducible refine Chg.trans ?_ g1)))) (hU1.kept (by repeat (first | with_reducible exact Chg.refl _ _ | (with_reducible refine Chg.trans ?_ (Chg.drew _ _)) | (with_reducible refine Chg.trans ?_ (Chg.alloc _ _ _)) | (with_reducible refine Chg.trans ?_ g5) | (with_reducible refine Chg.trans ?_ g4) | (with_reducible refine Chg.trans ?_ g3) | (with_reducible refine Chg.trans ?_ g2) | (with_reducible refine Chg.trans ?_ g1)))) (hU2.kept (by repeat (first | with_reducible exact Chg.refl _ _ | (with_reducible refine Chg.trans ?_ (Chg.drew _ _)) | (with_reducible refine Chg.trans ?_ (Chg.alloc _ _ _)) | (with_reducible refine Chg.trans ?_ g5) | (with_reducible refine Chg.trans ?_ g4) | (with_reducible refine Chg.trans ?_ g3) | (with_reducible refine Chg.trans ?_ g2) | (with_reducible refine Chg.trans ?_ g1)))) (hU.kept (by repeat (first | with_reducible exact Chg.refl _ _ | (with_reducible refine Chg.trans ?_ (Chg.drew _ _)) | (with_reducible refine Chg.trans ?_ (Chg.alloc _ _ _)) | (with_reducible refine Chg.trans ?_ g5) | (with_reducible refine Chg.trans ?_ g4) | (with_reducible refine Chg.trans ?_ g3) | (with_reducible refine Chg.trans ?_ g2) | (with_reducible refine Chg.trans ?_ g1)))) ?_
      first
        | (refine ⟨y5.heap.size, Mp.keep (S := fun _ => False) (Mp.made y5) ?g (fun e => e), ⟨?lo, ?nd⟩, ?hb⟩; case g => (repeat (first | with_reducible exact Chg.refl _ _ | (with_reducible refine Chg.trans ?_ (Chg.drew _ _)) | (with_reducible refine Chg.trans ?_ (Chg.alloc _ _ _)) | (with_reducible refine Chg.trans ?_ g5) | (with_reducible refine Chg.trans ?_ g4) | (with_reducible refine Chg.trans ?_ g3) | (with_reducible refine Chg.trans ?_ g2) | (with_reducible refine Chg.trans ?_ g1))))
        | (refine ⟨y4.heap.size, Mp.keep (S := fun _ => False) (Mp.made y4) ?g (fun e => e), ⟨?lo, ?nd⟩, ?hb⟩; case g => (repeat (first | with_reducible exact Chg.refl _ _ | (with_reducible refine Chg.trans ?_ (Chg.drew _ _)) | (with_reducible refine Chg.trans ?_ (Chg.alloc _ _ _)) | (with_reducible refine Chg.trans ?_ g5) | (with_reducible refine Chg.trans ?_ g4) | (with_reducible refine Chg.trans ?_ g3) | (with_reducible refine Chg.trans ?_ g2) | (with_reducible refine Chg.trans ?_ g1))))
        | (refine ⟨y3.heap.size, Mp.keep (S := fun _ => False) (Mp.made y3) ?g (fun e => e), ⟨?lo, ?nd⟩, ?hb⟩; case g => (repeat (first | with_reducible exact Chg.refl _ _ | (with_reducible refine Chg.trans ?_ (Chg.drew _ _)) | (with_reducible refine Chg.trans ?_ (Chg.alloc _ _ _)) | (with_reducible refine Chg.trans ?_ g5) | (with_reducible refine Chg.trans ?_ g4) | (with_reducible refine Chg.trans ?_ g3) | (with_reducible refine Chg.trans ?_ g2) | (with_reducible refine Chg.trans ?_ g1))))
        | (refine ⟨y2.heap.size, Mp.keep (S := fun _ => False) (Mp.made y2) ?g (fun e => e), ⟨?lo, ?nd⟩, ?hb⟩; case g => (repeat (first | with_reducible exact Chg.refl _ _ | (with_reducible refine Chg.trans ?_ (Chg.drew _ _)) | (with_reducible refine Chg.trans ?_ (Chg.alloc _ _ _)) | (with_reducible refine Chg.trans ?_ g5) | (with_reducible refine Chg.trans ?_ g4) | (with_reducible refine Chg.trans ?_ g3) | (with_reducible refine Chg.trans ?_ g2) | (with_reducible refine Chg.trans ?_ g1))))
        | (refine ⟨y1.heap.size, Mp.keep (S := fun _ => False) (Mp.made y1) ?g (fun e => e), ⟨?lo, ?nd⟩, ?hb⟩; case g => (repeat (first | with_reducible exact Chg.refl _ _ | (with_reducible refine Chg.trans ?_ (Chg.drew _ _)) | (with_reducible refine Chg.trans ?_ (Chg.alloc _ _ _)) | (with_reducible refine Chg.trans ?_ g5) | (with_reducible refine Chg.trans ?_ g4) | (with_reducible refine Chg.trans ?_ g3) | (with_reducible refine Chg.trans ?_ g2) | (with_reducible refine Chg.trans ?_ g1))))
        | (refine ⟨wc.drew.heap.size, Mp.keep (S := fun _ => False) (Mp.made wc.drew) ?g (fun e => e), ⟨?lo, ?nd⟩, ?hb⟩; case g => (repeat (first | with_reducible exact Chg.refl _ _ | (with_reducible refine Chg.trans ?_ (Chg.drew _ _)) | (with_reducible refine Chg.trans ?_ (Chg.alloc _ _ _)) | (with_reducible refine Chg.trans ?_ g5) | (with_reducible refine Chg.trans ?_ g4) | (with_reducible refine Chg.trans ?_ g3) | (with_reducible refine Chg.trans ?_ g2) | (with_reducible refine Chg.trans ?_ g1))))
        | (refine ⟨wc.heap.size, Mp.keep (S := fun _ => False) (Mp.made wc) ?g (fun e => e), ⟨?lo, ?nd⟩, ?hb⟩; case g => (repeat (first | with_reducible exact Chg.refl _ _ | (with_reducible refine Chg.trans ?_ (Chg.drew _ _)) | (with_reducible refine Chg.trans ?_ (Chg.alloc _ _ _)) | (with_reducible refine Chg.trans ?_ g5) | (with_reducible refine Chg.trans ?_ g4) | (with_reducible refine Chg.trans ?_ g3) | (with_reducible refine Chg.trans ?_ g2) | (with_reducible refine Chg.trans ?_ g1))))
      case hb =>
        first
          | exact block_alloc _ _
          | (rw [show y5.heap.size + 1 = (y5.alloc (.map #[] 0)).heap.size by simp]; exact block_alloc _ _)
      case lo =>
        intro k hk
        simp only [List.mem_cons, List.not_mem_nil, or_false] at hk
        rcases hk with rfl | rfl | rfl | rfl | rfl | rfl | rfl | rfl | rfl | rfl <;> (constructor <;> (try simp [hdr]) <;> omega)
      case nd =>
        simp only [List.nodup_cons, List.mem_cons, List.not_mem_nil, or_false, not_or, List.nodup_nil, and_true, not_false_eq_true]
        try simp only [hdr]
        (repeat' apply And.intro) <;> omega
end
end Go.Proofs.YtnpihllannobgaaGreatDoor
namespace Go.Proofs.YtnpihllannobgaaGreatDoor
set_option linter.unusedVariables false
set_option linter.unusedSimpArgs false
open Go.ChangeShapes Go.WideShapes Go.ChangeAt Go.RowKit

theorem block_setCells2 (b : Nat) (t : TypeId) : ∀ (vs : List Value) (o : Nat) (w : World) (cur : Array Value), w.heap[b]? = some (.cells cur t (0, 0)) → o + vs.length ≤ cur.size →
    ∃ cur', (w.setCells b o vs).heap[b]? = some (.cells cur' t (0, 0)) ∧ cur'.size = cur.size ∧ (∀ k, k < o → cur'[k]? = cur[k]?) ∧ ∀ k, k < vs.length → cur'[o + k]? = vs[k]?
  | [], o, w, cur, h, _ => ⟨cur, h, rfl, fun _ _ => rfl, fun k hk => by simp at hk⟩
  | v :: r, o, w, cur, h, hs => by
    simp only [List.length_cons] at hs
    obtain ⟨cur', h1, h2, h3, h4⟩ := block_setCells2 b t r (o + 1) (w.setCell ⟨b, o, none⟩ v) _ (block_set h o v) (by simp; omega)
    refine ⟨cur', h1, by simpa using h2, fun k hk => by rw [h3 k (by omega), Array.getElem?_setIfInBounds]; simp; omega, fun k hk => ?_⟩
    cases k with
    | zero => rw [Nat.add_zero, h3 o (by omega), Array.getElem?_setIfInBounds]; simp; omega
    | succ k =>
      have := h4 k (by simpa using hk)
      rw [show o + (k + 1) = o + 1 + k by omega, this]; rfl
/-- all cells of a block are set. -/
theorem block_setAll {w : World} {b : Nat} {t : TypeId} {cur vs : Array Value} (h : w.heap[b]? = some (.cells cur t (0, 0))) (hs : vs.size = cur.size) : (w.setCells b 0 vs.toList).heap[b]? = some (.cells vs t (0, 0)) := by
  obtain ⟨cur', h1, h2, h3, h4⟩ := block_setCells2 b t vs.toList 0 w cur h (by simp [hs])
  rw [h1]
  have : cur' = vs := by
    apply Array.ext_getElem?
    intro k
    by_cases hk : k < vs.size
    · have := h4 k (by simpa using hk)
      rw [Nat.zero_add] at this
      rw [this, Array.getElem?_toList]
    · rw [Array.getElem?_eq_none (by omega), Array.getElem?_eq_none (by omega)]
  rw [this]
theorem rangeAt_block {w : World} {b : Nat} {t : TypeId} {cur : Array Value} (h : w.heap[b]? = some (.cells cur t (0, 0))) : w.rangeAt b 0 cur.toList := fun j v hj => by
  rw [Nat.zero_add, cell_of_block h]
  simpa using hj
theorem there_block {w : World} {b : Nat} {t : TypeId} {cur : Array Value} {n : Nat} (h : w.heap[b]? = some (.cells cur t (0, 0))) (hn : n = cur.size) : w.there b 0 n := fun j hj => by
  rw [Nat.zero_add, cell_of_block h]
  exact ⟨by simp; omega, frozen_of_block h j⟩
theorem sz75 (n : Nat) (h : n = 32) : (Tryz.prog.info? 75).map (·.size) = some n := by subst h; kernel_rfl
theorem wp_load75 {op : Oper} {a : Act} {w : World} {K : Act → World → Prop} {Q : Exit → Act → World → Prop} (x : Operand) (ho : op.op = .load 75 x) {b : Nat} (hx : a.eval x = .pointer (some ⟨b, 0, none⟩)) {cs : Array Value}
    (h : w.heap[b]? = some (.cells cs 75 (0, 0))) (hn : cs.size = 32) (hk : K (a.put op.dst (.agg cs)) w) : op.wp Tryz.prog a w K Q := by
  have h1 : (Tryz.prog.underlying 75).any TypeDesc.isRow = true := by kernel_rfl
  obtain ⟨d, hd⟩ : ∃ d, Tryz.prog.underlying 75 = some d := by
    cases hq : Tryz.prog.underlying 75 with
    | none => rw [hq] at h1; cases h1
    | some d => exact ⟨d, rfl⟩
  rw [hd] at h1
  exact wp_load_mid 75 x ho b 0 hx cs.toList d (rangeAt_block h) hd h1 (sz75 _ (by simpa using hn)) hk
theorem wp_store75 {op : Oper} {a : Act} {w : World} {K : Act → World → Prop} {Q : Exit → Act → World → Prop} (x y : Operand) (ho : op.op = .store 75 x y) {b : Nat} (hx : a.eval x = .pointer (some ⟨b, 0, none⟩)) {cs cur : Array Value}
    (hy : a.eval y = .agg cs) (h : w.heap[b]? = some (.cells cur 75 (0, 0))) (hm : cur.size = 32) (hn : cs.size = 32) (h1 : cs.all (·.oneCell') = true) (hk : K (a.put op.dst undef) (w.setCells b 0 cs.toList)) : op.wp Tryz.prog a w K Q :=
  wp_store_mid 75 x y ho b 0 cs hx hy (there_block h (by omega)) (sz75 _ hn) h1 hk
def rebootN (i : Nat) (s : NSt) : NSt := clkN (newN i) (cutf (offN s) 1000000000000) 0 0
section
variable {w0 w w' : World} {o0 o o' : Cls} {c : Cfg} {i b : Nat} {s : NSt} {r : NR}
theorem Nd.ones {nb : Nat} {q : NR} (h : Nd w o c i nb q (newN i)) : (cellsN c i q (newN i)).all (·.oneCell') = true := by
  obtain ⟨A1, c1, h1, _⟩ := h.np.1
  obtain ⟨A2, c2, h2, _⟩ := h.np.2.1
  have h3 : q.pv = .pointer none := h.np.2.2.2.2.2.2.2.1
  have h4 : q.kv = .pointer none := h.np.2.2.2.2.2.2.2.2.1
  obtain ⟨ps, h5, _⟩ := h.np.2.2.2.2.2.2.2.2.2.2
  obtain ⟨A3, l3, c3, h6⟩ : ∃ A l cc, q.ev = .slice A l cc := by rcases own_val h5 with ⟨e, _⟩ | ⟨g, cap, e, _⟩ <;> exact ⟨_, _, _, e⟩
  unfold cellsN
  rw [h1, h2, h3, h4, h6]
  simp [Value.oneCell']
/-- what a new node is, copied to where the old one was. -/
theorem NAt.reborn {wp : World} {nb : Nat} {q : NR} (h : NAt w0 o0 c i b s w o r) (he : Ext w o o') (hz : Z wp o') (hd : Nd wp o' c i nb q (newN i)) (hp : Chg (fun _ => False) w wp) :
    NAt w0 o0 c i b (newN i) (wp.setCells b 0 (cellsN c i q (newN i)).toList) o' q := by
  have hob : o' b = cl i 0 := by rw [he b (lt_of_block h.nd.blk)]; exact h.nd.ob
  have g := chg_setCells b (cellsN c i q (newN i)).toList 0 wp
  have hb := block_setAll (vs := cellsN c i q (newN i)) (hp.keep h.nd.blk (fun e => e)) rfl
  refine h.next ⟨hb, hob, hd.np.step (Ext.refl _ _) g (fun k hk e => ?_) (fun j h1 h2 k hk e => ?_)⟩ (hz.more g.size) he ((hp.none).trans (g.mono (fun k _ e => ⟨0, by omega, by rw [e]; exact h.nd.ob⟩)))
  · subst e; rw [hob] at hk; exact cl_ne0 i 0 hk
  · subst e; rw [hob] at hk; have := (cl_inj hk (by omega) (by omega)).2; omega
set_option maxRecDepth 100000 in
set_option maxHeartbeats 4000000 in
theorem nreboot_any (h : NAt w0 o0 c i b s w o r) (hc : CfgOk c) (hi : i < c.nodes) (hi0 : i ≠ 0) (hx : -1000000000000000 ≤ s.base ∧ s.base ≤ 1000000000000000) (hy : -1000000000000000 ≤ s.sum ∧ s.sum ≤ 1000000000000000) :
    Calls Tryz.prog 40 #[.pointer (some ⟨b, 0, none⟩)] w fun en w' => en = .returned (.tuple #[]) ∧ ∃ o' r', NAt w0 o0 c i b (rebootN i s) w' o' r' := by
  have HH := Lib.hid h
  have HC := Lib.hid hc
  have c9 : w.cell? ⟨b, 9, none⟩ = some (.int .i64 i) := h.cell 9
  have c10 : w.cell? ⟨b, 10, none⟩ = some (.pointer (some ⟨r.clk, 0, none⟩)) := h.cell 10
  have HM := Lib.hid (ckoff_quiet w r.clk s.base s.sum s.slots h.nd.np.2.2.1.1 hx hy)
  obtain ⟨q, hq⟩ : ∃ q, q = r.clk := ⟨_, rfl⟩
  rw [← hq] at c10 HM
  unfold rebootN offN
  obtain ⟨t, ht⟩ : ∃ t, t = s.base + downf s.sum := ⟨_, rfl⟩
  rw [← ht] at HM ⊢
  have hne : ¬ (i : Int) = 0 := by omega
  clear h hq ht hc
  go_enter Tryz.func40, Tryz.ntmps40
  go_wp2_with fail
  (with_reducible refine HM.out.mono ?_)
  rintro en w1 ⟨rfl, m, hm⟩
  have HG := Lib.hid (show Chg (fun _ => False) w w1 from hm ▸ Chg.drewN _ _ _)
  clear hm HM c9 c10
  go_wp2_with fail
  have h1 := HH.out.kept HG.out
  have HS := Lib.hid (show ∀ W, Chg (fun _ => False) w1 W → W.cell? ⟨b, 0, none⟩ = some (.int .i64 c.nodes) ∧ W.cell? ⟨b, 1, none⟩ = some r.nv ∧ W.cell? ⟨b, 2, none⟩ = some r.hv ∧ W.cell? ⟨b, 3, none⟩ = some (.int .i64 c.guard) ∧ W.cell? ⟨b, 4, none⟩ = some (.int .i64 c.err) ∧ W.cell? ⟨b, 5, none⟩ = some (.int .i64 c.keep) ∧ W.cell? ⟨b, 6, none⟩ = some (.int .i64 c.loss) ∧ W.cell? ⟨b, 7, none⟩ = some (.int .i64 c.queue) ∧ W.cell? ⟨b, 8, none⟩ = some (.int .i64 c.life) ∧ W.cell? ⟨b, 9, none⟩ = some (.int .i64 i) from fun W g => by
    have k := h1.kept g
    exact ⟨k.cell 0, k.cell 1, k.cell 2, k.cell 3, k.cell 4, k.cell 5, k.cell 6, k.cell 7, k.cell 8, k.cell 9⟩)
  have HN := Lib.hid (show ∀ W, Chg (fun _ => False) w1 W → Calls Tryz.prog 30 #[cfgV c r.nv r.hv, .int .i64 i] W (PNode W o c i) from fun W g => by
    have k := h1.kept g
    exact nnew_any HC.out i hi k.z r.nv r.hv k.nd.np.1 k.nd.np.2.1)
  unfold cfgV at HN
  have H1 := Lib.hid h1
  clear h1 HH HG
  obtain ⟨a0, a1, a2, a3, a4, a5, a6, a7, a8, a9⟩ := HS.out _ (Chg.drew _ _)
  go_cut [] (fun wx => ∃ o' r', NAt w0 o0 c i b (newN i) wx o' r')
  case first =>
    refine wp_region_any (by kernel_rfl) ?_
    change wpAny _ _ _ _ _ _ _ (World.drew _)
    refine wpAny_take (i := 0) (v := .pointer (some ⟨b, 0, none⟩)) rfl (by kernel_rfl) (by kernel_rfl) (by kernel_rfl) (fun _ _ _ h => h) (Or.inl ⟨by rfl, fun w => by go_simp⟩) ?_
    refine wpAny_take (i := 1) (v := .pointer (some ⟨b, 0, none⟩)) rfl (by kernel_rfl) (by kernel_rfl) (by kernel_rfl) (fun _ _ _ h => h) (Or.inl ⟨by rfl, fun w => by go_simp⟩) ?_
    refine wpAny_take (i := 2) (v := .pointer (some ⟨b, 0, none⟩)) rfl (by kernel_rfl) (by kernel_rfl) (by kernel_rfl) (fun _ _ _ h => h) (Or.inl ⟨by rfl, fun w => by go_simp⟩) ?_
    refine wpAny_take (i := 3) (v := .pointer (some ⟨b, 0, none⟩)) rfl (by kernel_rfl) (by kernel_rfl) (by kernel_rfl) (fun _ _ _ h => h) (Or.inl ⟨by rfl, fun w => by go_simp⟩) ?_
    refine wpAny_take (i := 5) (v := .pointer (some ⟨b, 0, none⟩)) rfl (by kernel_rfl) (by kernel_rfl) (by kernel_rfl) (fun _ _ _ h => h) (Or.inl ⟨by rfl, fun w => by go_simp⟩) ?_
    refine wpAny_take (i := 6) (v := .pointer (some ⟨b, 0, none⟩)) rfl (by kernel_rfl) (by kernel_rfl) (by kernel_rfl) (fun _ _ _ h => h) (Or.inl ⟨by rfl, fun w => by go_simp⟩) ?_
    refine wpAny_take (i := 7) (v := .pointer (some ⟨b, 9, none⟩)) rfl (by kernel_rfl) (by kernel_rfl) (by kernel_rfl) (fun _ _ _ h => h) (Or.inl ⟨by rfl, fun w => by go_simp⟩) ?_
    refine wpAny_ready (rs := [4, 8]) (by kernel_rfl) (by simp) ?_
    refine AllReady.cons rfl (fun K hK => ?_) (AllReady.cons rfl (fun K hK => ?_) AllReady.nil)
    · go_simp
      with_reducible refine hK _ _ ?_
      clear hK K
      refine wpAny_ready (rs := [8]) (by kernel_rfl) (by simp) ?_
      refine AllReady.cons rfl (fun K hK => ?_) AllReady.nil
      go_simp
      with_reducible refine hK _ _ ?_
      clear hK K
      clear a0 a1 a2 a3 a4 a5 a6 a7 a8 a9
      refine wpAny_ready (rs := [9]) (by kernel_rfl) (by simp) ?_
      refine AllReady.cons rfl (fun K hK => ?_) AllReady.nil
      go_simp
      (with_reducible refine (HN.out _ (Chg.drew _ _)).mono ?_)
      rintro en wp ⟨nb, o2, r2, hen, hlo, he, hz, hnd, g5, hcl⟩
      unfold VP at hen
      subst hen
      dsimp only
      with_reducible refine hK _ _ ?_
      clear hK K
      have HR := Lib.hid (H1.out.reborn he hz hnd ((Chg.drew (fun _ => False) w1).trans g5))
      have HB := Lib.hid (H1.out.kept ((Chg.drew (fun _ => False) w1).trans g5)).nd.blk
      have HE := Lib.hid hnd
      clear hlo he hz hnd hcl g5
      refine wpAny_take (i := 10) (v := .pointer (some ⟨nb, 0, none⟩)) rfl (by kernel_rfl) (by kernel_rfl) (by kernel_rfl) (fun _ _ _ h => h) (Or.inl ⟨by rfl, fun w => by go_simp⟩) ?_
      refine wpAny_ready (rs := [11]) (by kernel_rfl) (by simp) ?_
      refine AllReady.cons rfl (fun K hK => ?_) AllReady.nil
      rw [if_pos (by rfl)]
      with_reducible refine wp_load75 (.tmp 27) rfl rfl HE.out.blk rfl (hK _ _ ?_)
      clear hK K
      refine wpAny_take (i := 12) (v := .pointer (some ⟨b, 0, none⟩)) rfl (by kernel_rfl) (by kernel_rfl) (by kernel_rfl) (fun _ _ _ h => h) (Or.inl ⟨by rfl, fun w => by go_simp⟩) ?_
      refine wpAny_ready (rs := [13]) (by kernel_rfl) (by simp) ?_
      refine AllReady.cons rfl (fun K hK => ?_) AllReady.nil
      rw [if_pos (by rfl)]
      with_reducible refine wp_store75 (.tmp 29) (.tmp 28) rfl rfl rfl HB.out rfl rfl HE.out.ones (hK _ _ ?_)
      clear hK K
      refine wpAny_done (by kernel_rfl) ?_ _
      go_wp2_with fail
      go_meet
      exact ⟨_, _, HR.out⟩
    · go_simp
      with_reducible refine hK _ _ ?_
      clear hK K
      refine wpAny_ready (rs := [4]) (by kernel_rfl) (by simp) ?_
      refine AllReady.cons rfl (fun K hK => ?_) AllReady.nil
      go_simp
      with_reducible refine hK _ _ ?_
      clear hK K
      clear a0 a1 a2 a3 a4 a5 a6 a7 a8 a9
      refine wpAny_ready (rs := [9]) (by kernel_rfl) (by simp) ?_
      refine AllReady.cons rfl (fun K hK => ?_) AllReady.nil
      go_simp
      (with_reducible refine (HN.out _ (Chg.drew _ _)).mono ?_)
      rintro en wp ⟨nb, o2, r2, hen, hlo, he, hz, hnd, g5, hcl⟩
      unfold VP at hen
      subst hen
      dsimp only
      with_reducible refine hK _ _ ?_
      clear hK K
      have HR := Lib.hid (H1.out.reborn he hz hnd ((Chg.drew (fun _ => False) w1).trans g5))
      have HB := Lib.hid (H1.out.kept ((Chg.drew (fun _ => False) w1).trans g5)).nd.blk
      have HE := Lib.hid hnd
      clear hlo he hz hnd hcl g5
      refine wpAny_take (i := 10) (v := .pointer (some ⟨nb, 0, none⟩)) rfl (by kernel_rfl) (by kernel_rfl) (by kernel_rfl) (fun _ _ _ h => h) (Or.inl ⟨by rfl, fun w => by go_simp⟩) ?_
      refine wpAny_ready (rs := [11]) (by kernel_rfl) (by simp) ?_
      refine AllReady.cons rfl (fun K hK => ?_) AllReady.nil
      rw [if_pos (by rfl)]
      with_reducible refine wp_load75 (.tmp 27) rfl rfl HE.out.blk rfl (hK _ _ ?_)
      clear hK K
      refine wpAny_take (i := 12) (v := .pointer (some ⟨b, 0, none⟩)) rfl (by kernel_rfl) (by kernel_rfl) (by kernel_rfl) (fun _ _ _ h => h) (Or.inl ⟨by rfl, fun w => by go_simp⟩) ?_
      refine wpAny_ready (rs := [13]) (by kernel_rfl) (by simp) ?_
      refine AllReady.cons rfl (fun K hK => ?_) AllReady.nil
      rw [if_pos (by rfl)]
      with_reducible refine wp_store75 (.tmp 29) (.tmp 28) rfl rfl rfl HB.out rfl rfl HE.out.ones (hK _ _ ?_)
      clear hK K
      refine wpAny_done (by kernel_rfl) ?_ _
      go_wp2_with fail
      go_meet
      exact ⟨_, _, HR.out⟩
  case rest =>
    obtain ⟨o3, r3, h3⟩ := hcut
    have c10 : wc.cell? ⟨b, 10, none⟩ = some (.pointer (some ⟨r3.clk, 0, none⟩)) := h3.cell 10
    have HM := Lib.hid (ckput_any wc r3.clk _ _ _ t h3.nd.np.2.2.1.1)
    have HN3 := Lib.hid h3
    clear h3 HS HN H1 a0 a1 a2 a3 a4 a5 a6 a7 a8 a9
    go_wp2_with fail
    (with_reducible refine HM.out.mono ?_)
    rintro en w3 ⟨rfl, hk, hg⟩
    have HF := Lib.hid (HN3.out.clk hk hg)
    clear hk hg HM HN3
    go_wp2_with fail
    go_end0
    exact ⟨rfl, _, _, HF.out⟩
end
end Go.Proofs.YtnpihllannobgaaGreatDoor
namespace Go.Proofs.YtnpihllannobgaaGreatDoor
set_option linter.unusedVariables false
set_option linter.unusedSimpArgs false
open Go.ChangeShapes Go.WideShapes Go.ChangeAt Go.RowKit

def lostE (i : Nat) : Ev := ⟨3, i, 0, 0, ⟨0, 0, 0, 0, [], []⟩⟩
def rebootW (c : Cfg) (i : Nat) (x : WM) : WM :=
  if (x.nd i).synced then WM.tells c (x.put i (rebootN i (x.nd i))).bound (x.put i (rebootN i (x.nd i))) [lostE i] else x.put i (rebootN i (x.nd i))
section
variable {w0 w w' : World} {o0 o o' : Cls} {c : Cfg} {W : Nat} {x x' : WM} {asn : Int} {r r' : WR} {S : Nat → Prop}
def lostO (i : Nat) : Obj := .cells #[.int .i64 3, .int .i64 i, .int .i64 0, .int .i64 0, .int .i64 0, .int .i64 0, .int .i64 0, .int .i64 0, .slice none 0 0, .slice none 0 0] 44
theorem Eo.lost (hz : Z w o) (i : Nat) : Eo (w.alloc (lostO i)) o 0 (.slice (some ⟨w.heap.size, 0, none⟩) 1 1) [lostE i] := by
  refine ⟨[(lostE i, .slice none 0 0, .slice none 0 0)], ?_, fun k hk => ?_, fun p hp => ?_, rfl⟩
  · exact ⟨rfl, .inr ⟨w.heap.size, 1, _, rfl, Nat.zero_le _, block_alloc w (lostO i), by simp, by decide, by simp, rfl⟩⟩
  · cases hk; exact hz _ (Nat.le_refl _)
  · simp at hp; subst hp; exact ⟨RV.nil _ _ _, BO.nil _ _⟩
set_option maxRecDepth 100000 in
set_option maxHeartbeats 4000000 in
theorem wreboot_any (hc : CfgOk c) (h : WAt w0 o0 c W x asn w o r) (i : Nat) (hi : i < c.nodes) (hi0 : i ≠ 0) (hx : -1000000000000000 ≤ (x.nd i).base ∧ (x.nd i).base ≤ 1000000000000000) (hy : -1000000000000000 ≤ (x.nd i).sum ∧ (x.nd i).sum ≤ 1000000000000000) (hev : x.ev.length ≤ 100000) :
    Calls Tryz.prog 20 #[VP W, .int .i64 i] w (PWa w0 o0 c W (rebootW c i x) asn r (.int .i64 0)) := by
  have hn0 := hc.n0
  have hn1 := hc.n1
  have HH := Lib.hid (whas_any h (by omega) i)
  rw [inR_yes (by omega) (by omega)] at HH
  obtain ⟨b, q, hbs, hN⟩ := h.get i hi
  obtain ⟨lg, lcap, hlv, hrc⟩ := h.rowval (by omega)
  have hbc := hrc i b hbs
  have c9 : w.cell? ⟨W, 9, none⟩ = some r.lv := h.cell 9
  rw [hlv] at c9
  have i1 : (i : Int) < (c.nodes : Int) := by omega
  have hne : ¬ (i : Int) = 0 := by omega
  have HS := Lib.hid (nsynced_any hN)
  have HR := Lib.hid (nreboot_any hN hc hi hi0 hx hy)
  have H := Lib.hid (And.intro h (And.intro hbs (And.intro hlv hi)))
  have HC := Lib.hid hc
  have HEV := Lib.hid hev
  obtain ⟨sy, hsy⟩ : ∃ sy, sy = (x.nd i).synced := ⟨_, rfl⟩
  rw [← hsy] at HS
  have HSY := Lib.hid hsy
  clear h hbs hN hlv hrc hc hev hsy
  unfold VP at *
  go_enter Tryz.func20, Tryz.ntmps20
  go_wp2_with fail
  (with_reducible refine HH.out.mono ?_)
  rintro en w1 ⟨rfl, rfl⟩
  go_wp2_with fail
  (with_reducible refine HS.out.mono ?_)
  rintro en w2 ⟨rfl, rfl⟩
  go_wp2_with fail
  (with_reducible refine HR.out.mono ?_)
  rintro en w3 ⟨rfl, o3, q3, hN3⟩
  have hA3 := H.out.1.node hn1 H.out.2.2.2 H.out.2.1 hN3
  obtain ⟨X, hX⟩ : ∃ X, X = x.put i (rebootN i (x.nd i)) := ⟨_, rfl⟩
  rw [← hX] at hA3
  have HX := Lib.hid hX
  have H3 := Lib.hid hA3
  clear hN3 hX hA3
  cases sy with
  | false =>
    go_wp2_with fail
    go_ret
    refine ⟨o3, r, rfl, ?_, rfl, rfl⟩
    unfold rebootW
    rw [← HSY.out, ← HX.out]
    exact H3.out
  | true =>
    have c11 : w3.cell? ⟨W, 11, none⟩ = some r.bv := H3.out.cell 11
    have c11b := cell_al c11 (lostO i)
    have HT := Lib.hid (wtells_any HC.out (H3.out.kept hn1 (Chg.alloc (fun _ => False) w3 (lostO i))) (.slice (some ⟨w3.heap.size, 0, none⟩) 1 1) [lostE i] 0 (Eo.lost H3.out.z i)
      ⟨fun e => cl_ne0 16 0 e.symm, fun e => cl_ne0 16 2 e.symm, fun e => cl_ne0 16 4 e.symm⟩ r.bv X.bound (.inr (fun e he => by simp at he; subst he; show (3 : Int) ≠ 7; decide))
      (fun e he => by simp at he; subst he; exact ⟨fun _ => by unfold lostE; dsimp only; omega, fun h => by cases h⟩) (by simp) (by rw [HX.out]; exact HEV.out))
    have ho : lostO i = .cells #[.int .i64 3, .int .i64 i, .int .i64 0, .int .i64 0, .int .i64 0, .int .i64 0, .int .i64 0, .int .i64 0, .slice none 0 0, .slice none 0 0] 44 := rfl
    rw [ho] at c11b HT
    unfold VP at HT
    clear ho
    go_wp2_with fail
    (with_reducible refine HT.out.mono ?_)
    rintro en w4 ⟨v, o4, r4, rfl, hA4, hs4, rfl⟩
    have H4 := Lib.hid (And.intro hA4 hs4)
    clear hA4 hs4 HT c11 c11b
    go_wp2_with fail
    go_ret
    refine ⟨o4, r4, rfl, ?_, H4.out.2.1, H4.out.2.2.1⟩
    unfold rebootW
    rw [← HSY.out, ← HX.out]
    exact H4.out.1
end
end Go.Proofs.YtnpihllannobgaaGreatDoor
