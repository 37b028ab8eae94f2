/- What a node plans. What a node sends. What a node does in a slot, case by case. What a slot writes into a world's memory. No condition. -/
import Derived.Test.YtnpihllannobgaaGreatDoorG19
import Derived.Test.YtnpihllannobgaaGreatDoorG27
import Derived.Test.YtnpihllannobgaaGreatDoorG23
import Derived.Test.YtnpihllannobgaaGreatDoorG25
import Derived.Test.YtnpihllannobgaaGreatDoorG26
namespace Go.Proofs.YtnpihllannobgaaGreatDoor
set_option linter.unusedVariables false
set_option linter.unusedSimpArgs false
open Go.ChangeShapes Go.WideShapes Go.ChangeAt Go.RowKit

def PPlan (w0 : World) (o0 : Cls) (c : Cfg) (i b : Nat) (x : NSt × Int × List Int) : Ending → World → Prop :=
  PN w0 o0 c i b x.1 (fun v w' o' => ∃ bv, v = .tuple #[.int .i64 x.2.1, bv] ∧ BO w' o' bv x.2.2)
section
variable {w0 w w' : World} {o0 o o' : Cls} {c : Cfg} {i b : Nat} {s s' : NSt} {r r' : NR}
/-- its own block is turned. -/
theorem NAt.blk (h : NAt w0 o0 c i b s w o r) (g : Chg (· = b) w w') (hc : w'.heap[b]? = some (.cells (cellsN c i r' s') 75 (0, 0))) (hp : Np w o c i r' s') : NAt w0 o0 c i b s' w' o r' := by
  have hb := h.nd.ob
  exact h.next ⟨hc, hb, hp.step (Ext.refl _ _) g (fun q h1 e => by subst e; rw [hb] at h1; exact cl_ne0 i 0 h1)
    (fun j h1 h2 q h3 e => by subst e; rw [hb] at h3; have := (cl_inj h3 (by omega) (by omega)).2; omega)⟩ (h.z.more g.size) (Ext.refl _ _) (g.mono (fun q _ e => ⟨0, by omega, by rw [e]; exact hb⟩))
set_option maxRecDepth 100000 in
set_option maxHeartbeats 8000000 in
theorem nplan_off (hc : CfgOk c) (h : NAt w0 o0 c i b s w o r) (now : Int) (h0 : 0 ≤ now) (h1 : now < 1099511627776) (hs : s.synced = false) (hz : 0 ≤ s.slots ∧ s.slots ≤ 1000000) :
    Calls Tryz.prog 32 #[.pointer (some ⟨b, 0, none⟩), .int .i64 now] w (PPlan w0 o0 c i b (planN c i s now)) := by
  have HA := Lib.hid (fun w => nasn_any now h0 h1 w)
  have c10 : w.cell? ⟨b, 18, none⟩ = some (.bool false) := by rw [← hs]; exact h.cell 18
  have c2 : w.cell? ⟨b, 2, none⟩ = some r.hv := h.cell 2
  have c0 : w.cell? ⟨b, 0, none⟩ = some (.int .i64 c.nodes) := h.cell 0
  have ck : w.cell? ⟨b, 10, none⟩ = some (.pointer (some ⟨r.clk, 0, none⟩)) := h.cell 10
  have HK := Lib.hid h.nd.np.2.2.1.1
  have H := Lib.hid h
  have hh := h.nd.np.2.1
  obtain ⟨A, cap, hv, hro, hA, hcap, hmx⟩ := hh
  have hl1 := hc.hops.2.2.1
  have hl2 := hc.hops.2.2.2
  have hn0 := hc.n0
  have hn1 := hc.n1
  obtain ⟨M, hM⟩ : ∃ M : Int, M = (c.nodes : Int) * (c.hops.length : Int) := ⟨_, rfl⟩
  have hM1 : 1 ≤ M ∧ M ≤ 256 := by
    rw [hM]
    have q1 : (1 : Int) * 1 ≤ (c.nodes : Int) * (c.hops.length : Int) := Int.mul_le_mul (by omega) (by omega) (by omega) (by omega)
    have q2 : (c.nodes : Int) * (c.hops.length : Int) ≤ 16 * 16 := Int.mul_le_mul (by omega) (by omega) (by omega) (by omega)
    omega
  have e1 : IntKind.i64.wrap ((c.nodes : Int) * (c.hops.length : Int)) = M := by rw [← hM]; exact IntWalk.i64_in _ (by omega)
  obtain ⟨q, hq⟩ : ∃ q, q = s.slots / M := ⟨_, rfl⟩
  have hq0 : 0 ≤ q ∧ q ≤ 1000000 := by
    rw [hq]
    have := Int.ediv_le_self M hz.1
    have := Int.ediv_nonneg hz.1 (show 0 ≤ M by omega)
    omega
  have e2 : IntKind.i64.wrap (s.slots.tdiv M) = q := by rw [Int.tdiv_eq_ediv_of_nonneg hz.1, ← hq]; exact IntWalk.i64_in _ (by omega)
  have e3 : (M == 0) = false := by simp; omega
  have e4 : ¬ M = 0 := by omega
  obtain ⟨P, hP⟩ : ∃ P, P = planN c i s now := ⟨_, rfl⟩
  have hP2 : P = (s, chanOf c.hops q, []) := by rw [hP, hq, hM]; unfold planN chanN; rw [hs]; rfl
  rw [← hP]
  have HP := Lib.hid hP2
  have HCH := Lib.hid (fun W (g : Chg (fun _ => False) w W) => channel_any W A c.hops.length cap c.hops q (by exact ((show Ro VI w o A _ c.hops from hro).keep g (fun _ _ e => e)).rs) hA hcap hmx hc.hops hq0.1 (by omega))
  obtain ⟨hl, hhl⟩ : ∃ n, n = c.hops.length := ⟨_, rfl⟩
  rw [hv] at c2
  rw [← hhl] at c2 HCH e1
  obtain ⟨ca, hca⟩ : ∃ x, x = chanOf c.hops q := ⟨_, rfl⟩
  rw [← hca] at HCH HP
  obtain ⟨cb, hcb⟩ : ∃ x, x = r.clk := ⟨_, rfl⟩
  rw [← hcb] at ck HK
  obtain ⟨sl, hsl⟩ : ∃ x, x = s.slots := ⟨_, rfl⟩
  rw [← hsl] at e2 HK
  clear h hro hP hP2 hq hM hhl hca hcb hsl
  go_enter Tryz.func32, Tryz.ntmps32
  go_wp2_with fail
  (with_reducible refine (HA.out _).mono ?_)
  rintro en w1 ⟨rfl, rfl⟩
  go_wp2_with fail
  obtain ⟨I, F1, hI, hF1, hFA⟩ := clsF w1
  have k1 := cellF hF1 c2
  have k2 := cellF hF1 c0
  have k3 := cellF hF1 ck
  have HFF := Lib.hid hF1
  have HC1 := Lib.hid (show ∀ n, Calls Tryz.prog 58 #[.pointer (some ⟨cb, 0, none⟩)] (F1 n) (fun e w' => e = .returned (.int .i64 sl) ∧ ∃ m, w' = F1 m) from
    fun n => (ckslots_any (F1 n) cb s.base s.sum sl (HK.out.kept (hF1 n))).mono (fun e w' ⟨h1, h2⟩ => ⟨h1, n, h2⟩))
  have HC2 := Lib.hid (show ∀ n, Calls Tryz.prog 57 #[.slice A hl cap, .int .u32 0, .int .i64 q, .int .i64 0] (F1 n) (fun e w' => e = .returned (.int .i64 ca) ∧ ∃ m, w' = F1 m) from
    fun n => (HCH.out (F1 n) (hF1 n)).mono (fun e w' ⟨h1, h2⟩ => ⟨h1, hFA _ ((hF1 n).trans h2)⟩))
  have HFA := Lib.hid (hFA _ (Chg.drew _ _))
  clear hF1 hFA c2 c0 ck
  with_reducible refine wp_region_cls F1 (by kernel_rfl) (by kernel_rfl) HFA.out ?_
  repeat ((with_reducible refine wpQuiet_step (fun K hK => ?_)); go_simp; (try (rw [if_neg]; rotate_left; (intro h; cases h))); first | ((with_reducible refine hK _ ?_); clear hK K) | (apply Exists.intro; (with_reducible refine ⟨fun _ => ?_, hK _ ?_⟩); (first | exact HC1.out _ | exact HC2.out _); clear hK K))
  with_reducible refine wpQuiet_nil ?_
  intro _ hw'
  obtain ⟨nq, rfl⟩ := hw'
  have H2 := Lib.hid (H.out.kept (HFF.out nq))
  clear k1 k2 k3 HC1 HC2 HFF HFA hI
  generalize F1 nq = w2 at *
  go_wp2_with fail
  go_ret2
  rw [HP.out]
  exact ⟨_, o, r, rfl, H2.out, _, rfl, BO.nil _ _⟩
set_option maxRecDepth 100000 in
set_option maxHeartbeats 8000000 in
theorem nplan_idle (hc : CfgOk c) (h : NAt w0 o0 c i b s w o r) (now : Int) (h0 : 0 ≤ now) (h1 : now < 1099511627776) (hs : s.synced = true) (hne : now % (c.nodes : Int) ≠ i) :
    Calls Tryz.prog 32 #[.pointer (some ⟨b, 0, none⟩), .int .i64 now] w (PPlan w0 o0 c i b (planN c i s now)) := by
  have HA := Lib.hid (fun w => nasn_any now h0 h1 w)
  have c18 : w.cell? ⟨b, 18, none⟩ = some (.bool true) := by rw [← hs]; exact h.cell 18
  have c2 : w.cell? ⟨b, 2, none⟩ = some r.hv := h.cell 2
  have HC := Lib.hid (show ∀ W, Chg (fun _ => False) w W → W.cell? ⟨b, 0, none⟩ = some (.int .i64 c.nodes) ∧ W.cell? ⟨b, 9, none⟩ = some (.int .i64 i) from fun W g => ⟨(h.kept g).cell 0, (h.kept g).cell 9⟩)
  have H := Lib.hid h
  obtain ⟨A, cap, hv, hro, hA, hcap, hmx⟩ := h.nd.np.2.1
  have hn0 := hc.n0
  have hn1 := hc.n1
  obtain ⟨m, hm⟩ : ∃ m : Int, m = now % (c.nodes : Int) := ⟨_, rfl⟩
  rw [← hm] at hne
  have e1 : now.tmod (c.nodes : Int) = m := by rw [hm]; exact Int.tmod_eq_emod_of_nonneg h0
  have e2 : IntKind.i64.wrap m = m := IntWalk.i64_in _ (by rw [hm]; have := Int.emod_nonneg now (show (c.nodes : Int) ≠ 0 by omega); have := Int.emod_lt_of_pos now (show (0 : Int) < c.nodes by omega); omega)
  have e3 : ((c.nodes : Int) == 0) = false := by simp; omega
  have e4 : ¬ c.nodes = 0 := by omega
  have e5 : (m != (i : Int)) = true := by simpa using hne
  obtain ⟨P, hP⟩ : ∃ P, P = planN c i s now := ⟨_, rfl⟩
  have hP2 : P = (s, chanOf c.hops now, []) := by
    rw [hP]; unfold planN chanN; rw [hs, ← hm, decide_eq_false hne]; rfl
  rw [← hP]
  have HP := Lib.hid hP2
  have HCH := Lib.hid (channel_any w A c.hops.length cap c.hops now (show Ro VI w o A _ c.hops from hro).rs hA hcap hmx hc.hops h0 h1)
  obtain ⟨hl, hhl⟩ : ∃ n, n = c.hops.length := ⟨_, rfl⟩
  rw [hv] at c2
  rw [← hhl] at c2 HCH
  obtain ⟨ca, hca⟩ : ∃ x, x = chanOf c.hops now := ⟨_, rfl⟩
  rw [← hca] at HCH HP
  clear h hro hP hP2 hm hhl hca hne
  go_enter Tryz.func32, Tryz.ntmps32
  go_wp2_with fail
  (with_reducible refine (HA.out _).mono ?_)
  rintro en w1 ⟨rfl, rfl⟩
  go_wp2_with fail
  (with_reducible refine HCH.out.mono ?_)
  rintro en w2 ⟨rfl, hG⟩
  obtain ⟨c0, c9⟩ := HC.out _ hG
  have H2 := Lib.hid (H.out.kept hG)
  have HC2 := Lib.hid (fun W (g : Chg (fun _ => False) w2 W) => H2.out.kept g)
  clear hG c2 c18 HC HCH
  go_wp2_with fail
  obtain ⟨I, F1, hI, hF1, hFA⟩ := clsF w2
  have k1 := cellF hF1 c0
  have k2 := cellF hF1 c9
  have HFF := Lib.hid hF1
  have HFA := Lib.hid (hFA _ (Chg.drew _ _))
  clear hF1 hFA c0 c9
  with_reducible refine wp_region_cls F1 (by kernel_rfl) (by kernel_rfl) HFA.out ?_
  repeat ((with_reducible refine wpQuiet_step (fun K hK => ?_)); go_simp; (try (rw [if_neg]; rotate_left; (intro h; cases h))); (with_reducible refine hK _ ?_); clear hK K)
  with_reducible refine wpQuiet_nil ?_
  intro _ hw'
  obtain ⟨nq, rfl⟩ := hw'
  have H3 := Lib.hid (HC2.out _ (HFF.out nq))
  clear k1 k2 HFF HFA hI HC2
  generalize F1 nq = w3 at *
  go_wp2_with fail
  go_ret2
  rw [HP.out]
  exact ⟨_, o, r, rfl, H3.out, _, rfl, BO.nil _ _⟩
end
end Go.Proofs.YtnpihllannobgaaGreatDoor
namespace Go.Proofs.YtnpihllannobgaaGreatDoor
set_option linter.unusedVariables false
set_option linter.unusedSimpArgs false
open Go.ChangeShapes Go.WideShapes Go.ChangeAt Go.RowKit

section
variable {w0 w w' : World} {o0 o o' : Cls} {c : Cfg} {i b : Nat} {s s' : NSt} {r r' : NR}
theorem next_lens (c : Cfg) (i : Nat) (s : NSt) (now : Int) (hh : c.hops.length ≤ 16) (hl : ∀ p ∈ s.q, p.2.length ≤ 1000) : (nextN c i s now).ies.length ≤ 100000 ∧ (nextN c i s now).data.length ≤ 100000 ∧ ∀ e ∈ (nextN c i s now).ies, e.list.length ≤ 100000 := by
  have hE : (syncE i s now).list = [] := rfl
  have hp : (pktN s).1.length ≤ 1000 := by
    unfold pktN
    cases hq : s.q with
    | nil => simp
    | cons p t =>
      obtain ⟨d, L⟩ := p
      exact hl (d, L) (by rw [hq]; simp)
  unfold nextN
  split
  · refine ⟨by simp, by simp only []; omega, fun e he => ?_⟩
    simp at he; subst he; rw [hE]; simp
  · split
    · refine ⟨by simp, by simp, fun e he => ?_⟩
      simp at he; subst he; rw [hE]; simp
    · refine ⟨by simp, by simp, fun e he => ?_⟩
      simp at he
      rcases he with rfl | rfl
      · rw [hE]; simp
      · simp only []; omega
theorem sendAt (h : NAt w0 o0 c i b s w o r) (sq now : Int) (f : Fr) (iA : Option Addr) (il ic : Nat) (dA : Option Addr) (dl dc : Nat) :
    NAt w0 o0 c i b { s with seq := sq, sasn := now, skind := f.kind, ssrc := f.src, sdst := f.dst, sseq := f.seq, sopen := f.kind != 3 }
      (((((((((w.setCell ⟨b, 15, none⟩ (.int .i64 sq)).setCell ⟨b, 23, none⟩ (.int .i64 now)).setCell ⟨b, 24, none⟩ (.int .i64 f.kind)).setCell ⟨b, 25, none⟩ (.int .i64 f.src)).setCell ⟨b, 26, none⟩ (.int .i64 f.dst)).setCell ⟨b, 27, none⟩ (.int .i64 f.seq)).setCell ⟨b, 28, none⟩ (.slice iA il ic)).setCell ⟨b, 29, none⟩ (.slice dA dl dc)).setCell ⟨b, 30, none⟩ (.bool (f.kind != 3)))
      o { r with ia := iA, il := il, ic := ic, da := dA, dl := dl, dc := dc } := by
  have h1 := h.set (s' := { s with seq := sq }) (r' := r) 15 (.int .i64 sq) rfl h.nd.np
  have h2 := h1.set (s' := { s with seq := sq, sasn := now }) (r' := r) 23 (.int .i64 now) rfl h1.nd.np
  have h3 := h2.set (s' := { s with seq := sq, sasn := now, skind := f.kind }) (r' := r) 24 (.int .i64 f.kind) rfl h2.nd.np
  have h4 := h3.set (s' := { s with seq := sq, sasn := now, skind := f.kind, ssrc := f.src }) (r' := r) 25 (.int .i64 f.src) rfl h3.nd.np
  have h5 := h4.set (s' := { s with seq := sq, sasn := now, skind := f.kind, ssrc := f.src, sdst := f.dst }) (r' := r) 26 (.int .i64 f.dst) rfl h4.nd.np
  have h6 := h5.set (s' := { s with seq := sq, sasn := now, skind := f.kind, ssrc := f.src, sdst := f.dst, sseq := f.seq }) (r' := r) 27 (.int .i64 f.seq) rfl h5.nd.np
  have h7 := h6.set (s' := { s with seq := sq, sasn := now, skind := f.kind, ssrc := f.src, sdst := f.dst, sseq := f.seq }) (r' := { r with ia := iA, il := il, ic := ic }) 28 (.slice iA il ic) rfl h6.nd.np
  have h8 := h7.set (s' := { s with seq := sq, sasn := now, skind := f.kind, ssrc := f.src, sdst := f.dst, sseq := f.seq }) (r' := { r with ia := iA, il := il, ic := ic, da := dA, dl := dl, dc := dc }) 29 (.slice dA dl dc) rfl h7.nd.np
  exact h8.set (s' := { s with seq := sq, sasn := now, skind := f.kind, ssrc := f.src, sdst := f.dst, sseq := f.seq, sopen := f.kind != 3 }) 30 (.bool (f.kind != 3)) rfl h8.nd.np
theorem chg9 (W : World) (b : Nat) (v15 v0 v1 v2 v3 v4 v5 v6 v7 : Value) :
    Chg (· = b) W (((((((((W.setCell ⟨b, 15, none⟩ v15).setCell ⟨b, 23, none⟩ v0).setCell ⟨b, 24, none⟩ v1).setCell ⟨b, 25, none⟩ v2).setCell ⟨b, 26, none⟩ v3).setCell ⟨b, 27, none⟩ v4).setCell ⟨b, 28, none⟩ v5).setCell ⟨b, 29, none⟩ v6).setCell ⟨b, 30, none⟩ v7) :=
  ((((((((chg1 _ _ _ _).trans (chg1 _ _ _ _)).trans (chg1 _ _ _ _)).trans (chg1 _ _ _ _)).trans (chg1 _ _ _ _)).trans (chg1 _ _ _ _)).trans (chg1 _ _ _ _)).trans (chg1 _ _ _ _)).trans (chg1 _ _ _ _)
set_option maxRecDepth 100000 in
set_option maxHeartbeats 8000000 in
theorem nplan_send (hc : CfgOk c) (h : NAt w0 o0 c i b s w o r) (now : Int) (h0 : 0 ≤ now) (h1 : now < 1099511627776) (hs : s.synced = true) (heq : now % (c.nodes : Int) = i) (hp : i ≠ 0 → s.p ≠ none) (hk : firstN s ≠ 64 → s.k ≠ none)
    (hq : s.q.length ≤ 1000) (hl : ∀ p ∈ s.q, p.2.length ≤ 1000) (hsq : 0 ≤ s.seq ∧ s.seq ≤ 255) :
    Calls Tryz.prog 32 #[.pointer (some ⟨b, 0, none⟩), .int .i64 now] w (PPlan w0 o0 c i b (planN c i s now)) := by
  have HA := Lib.hid (fun w => nasn_any now h0 h1 w)
  have c18 : w.cell? ⟨b, 18, none⟩ = some (.bool true) := by rw [← hs]; exact h.cell 18
  have c2 : w.cell? ⟨b, 2, none⟩ = some r.hv := h.cell 2
  have HC := Lib.hid (show ∀ W, Chg (fun _ => False) w W → W.cell? ⟨b, 0, none⟩ = some (.int .i64 c.nodes) ∧ W.cell? ⟨b, 9, none⟩ = some (.int .i64 i) from fun W g => ⟨(h.kept g).cell 0, (h.kept g).cell 9⟩)
  have H := Lib.hid h
  obtain ⟨A, cap, hv, hro, hA, hcap, hmx⟩ := h.nd.np.2.1
  have hn0 := hc.n0
  have hn1 := hc.n1
  have HN := Lib.hid (fun W (g : Chg (fun _ => False) w W) => nnext_any (h.kept g) now (fun _ => hp) hk hq hl)
  obtain ⟨m, hm⟩ : ∃ m : Int, m = now % (c.nodes : Int) := ⟨_, rfl⟩
  have e1 : now.tmod (c.nodes : Int) = m := by rw [hm]; exact Int.tmod_eq_emod_of_nonneg h0
  have e2 : IntKind.i64.wrap m = m := IntWalk.i64_in _ (by rw [hm]; have := Int.emod_nonneg now (show (c.nodes : Int) ≠ 0 by omega); have := Int.emod_lt_of_pos now (show (0 : Int) < c.nodes by omega); omega)
  have e4 : ¬ c.nodes = 0 := by omega
  have e5 : (m != (i : Int)) = false := by rw [hm, heq]; simp
  obtain ⟨sq, hsqe⟩ : ∃ x, x = (s.seq + 1) % 256 := ⟨_, rfl⟩
  have e6 : IntKind.i64.wrap (s.seq + 1) = s.seq + 1 := IntWalk.i64_in _ (by omega)
  have e7 : (s.seq + 1).tmod 256 = sq := by rw [hsqe]; exact Int.tmod_eq_emod_of_nonneg (by omega)
  have e8 : IntKind.i64.wrap sq = sq := IntWalk.i64_in _ (by omega)
  obtain ⟨f, hf⟩ : ∃ f, f = nextN c i s now := ⟨_, rfl⟩
  have hlen := next_lens c i s now hc.hops.2.2.2 hl
  rw [← hf] at HN hlen
  have HL := Lib.hid hlen
  obtain ⟨P, hP⟩ : ∃ P, P = planN c i s now := ⟨_, rfl⟩
  have hP2 : P = (sendN s f now, chanOf c.hops now, encO f) := by
    rw [hP]; unfold planN chanN; rw [hs, decide_eq_true heq, hf]; rfl
  rw [← hP]
  have HP := Lib.hid hP2
  have HCH := Lib.hid (channel_any w A c.hops.length cap c.hops now (show Ro VI w o A _ c.hops from hro).rs hA hcap hmx hc.hops h0 h1)
  obtain ⟨hl, hhl⟩ : ∃ n, n = c.hops.length := ⟨_, rfl⟩
  rw [hv] at c2
  rw [← hhl] at c2 HCH
  obtain ⟨ca, hca⟩ : ∃ x, x = chanOf c.hops now := ⟨_, rfl⟩
  rw [← hca] at HCH HP
  have HSQ := Lib.hid hsqe
  clear h hro hP hP2 hm hhl hca heq hlen hf hsqe
  go_enter Tryz.func32, Tryz.ntmps32
  go_wp2_with fail
  (with_reducible refine (HA.out _).mono ?_)
  rintro en w1 ⟨rfl, rfl⟩
  go_wp2_with fail
  (with_reducible refine HCH.out.mono ?_)
  rintro en w2 ⟨rfl, hG⟩
  obtain ⟨c0, c9⟩ := HC.out _ hG
  have HG2 := Lib.hid hG
  clear hG c2 c18 HC HCH
  go_wp2_with fail
  obtain ⟨I, F1, hI, hF1, hFA⟩ := clsF w2
  have k1 := cellF hF1 c0
  have k2 := cellF hF1 c9
  have HFF := Lib.hid hF1
  have HFA := Lib.hid (hFA _ (Chg.drew _ _))
  clear hF1 hFA c0 c9
  with_reducible refine wp_region_cls F1 (by kernel_rfl) (by kernel_rfl) HFA.out ?_
  repeat ((with_reducible refine wpQuiet_step (fun K hK => ?_)); go_simp; (try (rw [if_neg]; rotate_left; (intro h; cases h))); (with_reducible refine hK _ ?_); clear hK K)
  with_reducible refine wpQuiet_nil ?_
  intro _ hw'
  obtain ⟨nq, rfl⟩ := hw'
  have HG3 := Lib.hid (HG2.out.trans (HFF.out nq))
  have HN3 := Lib.hid (HN.out _ HG3.out)
  clear k1 k2 HFF HFA hI HN HG2
  generalize F1 nq = w3 at *
  go_wp2_with fail
  (with_reducible refine HN3.out.mono ?_)
  rintro en w4 ⟨iv, dv, rfl, hI4, hD4, hG4⟩
  obtain ⟨iA, ic, hiv⟩ := hI4.val
  obtain ⟨⟨dA, dc, hdv, _⟩, _⟩ := id hD4
  obtain ⟨il, hil⟩ : ∃ n, n = f.ies.length := ⟨_, rfl⟩
  obtain ⟨dl, hdl⟩ : ∃ n, n = f.data.length := ⟨_, rfl⟩
  rw [← hil] at hiv
  rw [← hdl] at hdv
  subst hiv hdv
  have ga := Chg.alloc (fun _ => False) w4 (.cells #[.int .i64 f.kind, .int .i64 f.src, .int .i64 f.dst, .int .i64 f.seq, .slice iA il ic, .slice dA dl dc] 71)
  have HB5 := Lib.hid (block_alloc w4 (.cells #[.int .i64 f.kind, .int .i64 f.src, .int .i64 f.dst, .int .i64 f.seq, .slice iA il ic, .slice dA dl dc] 71))
  have HG5 := Lib.hid ((HG3.out.trans hG4).trans ga)
  have HZ := Lib.hid H.out.z
  have hfs : w1.heap.size ≤ w4.heap.size := (HG3.out.trans hG4).size
  have HE := Lib.hid (fencode_any _ o (HZ.out.more HG5.out.size) f (.slice iA il ic) (.slice dA dl dc) (hI4.keep ga (fun _ _ e => e)) (hD4.keep ga (fun _ _ e => e)) HL.out.1 HL.out.2.1 HL.out.2.2)
  unfold frV at HE
  have HDB := Lib.hid hD4.2
  clear hil hdl hI4 hD4 hG4 HN3 ga HG3
  unfold frV
  go_wp2_with fail
  generalize w4.alloc (.cells #[.int .i64 f.kind, .int .i64 f.src, .int .i64 f.dst, .int .i64 f.seq, .slice iA il ic, .slice dA dl dc] 71) = w5 at *
  obtain ⟨fb, hfb⟩ : ∃ x, x = w4.heap.size := ⟨_, rfl⟩
  rw [← hfb] at HB5 hfs ⊢
  have HFS := Lib.hid hfs
  clear hfb hfs
  have HE2 := Lib.hid (HE.out.mono (R' := fun en w' => ∃ y er, en = .returned (.tuple #[y, .int .i64 er]) ∧ BO w' o y (encO f) ∧ Chg (fun _ => False) w5 w') (fun en w' hpe => by
    rcases hpe with ⟨hm1, y, he, hown, gq⟩ | ⟨hm1, he, gq⟩
    · refine ⟨y, 0, he, ?_, gq⟩
      unfold encO
      rw [if_pos hm1]
      exact BO.of_own hown (encF_byte f hm1 HDB.out) (fun k hk => HZ.out k (Nat.le_trans HG5.out.size hk))
    · refine ⟨_, 1, he, ?_, gq⟩
      unfold encO
      rw [if_neg (by simp [hm1])]
      exact BO.nil _ _))
  clear HE
  (with_reducible refine HE2.out.mono ?_)
  rintro en w6 ⟨y, er, rfl, hy, hG6⟩
  have H6 := Lib.hid (H.out.kept (HG5.out.trans hG6))
  have hb6 := Chg.keep hG6 HB5.out (fun e => e)
  obtain ⟨d0, d1, d2, d3, d4, d5⟩ := cell6 hb6
  have c15 : w6.cell? ⟨b, 15, none⟩ = some (.int .i64 s.seq) := H6.out.cell 15
  have f15 := H6.out.f 15
  have c23 : w6.cell? ⟨b, 23, none⟩ = some (.int .i64 s.sasn) := H6.out.cell 23
  have f23 := H6.out.f 23
  have c24 : w6.cell? ⟨b, 24, none⟩ = some (.int .i64 s.skind) := H6.out.cell 24
  have f24 := H6.out.f 24
  have c25 : w6.cell? ⟨b, 25, none⟩ = some (.int .i64 s.ssrc) := H6.out.cell 25
  have f25 := H6.out.f 25
  have c26 : w6.cell? ⟨b, 26, none⟩ = some (.int .i64 s.sdst) := H6.out.cell 26
  have f26 := H6.out.f 26
  have c27 : w6.cell? ⟨b, 27, none⟩ = some (.int .i64 s.sseq) := H6.out.cell 27
  have f27 := H6.out.f 27
  have c28 : w6.cell? ⟨b, 28, none⟩ = some (.slice r.ia r.il r.ic) := H6.out.cell 28
  have f28 := H6.out.f 28
  have c29 : w6.cell? ⟨b, 29, none⟩ = some (.slice r.da r.dl r.dc) := H6.out.cell 29
  have f29 := H6.out.f 29
  have c30 : w6.cell? ⟨b, 30, none⟩ = some (.bool s.sopen) := H6.out.cell 30
  have f30 := H6.out.f 30
  have hne : ¬ fb = b := by have := lt_of_block H.out.nd.blk; have := HFS.out; omega
  have hne2 : ¬ b = fb := fun e => hne e.symm
  have HY := Lib.hid hy
  clear hb6 hG6 hy HE2
  go_wp2_with fail
  have h7 := sendAt H6.out sq now f iA il ic dA dl dc
  have hch := chg9 w6 b (.int .i64 sq) (.int .i64 now) (.int .i64 f.kind) (.int .i64 f.src) (.int .i64 f.dst) (.int .i64 f.seq) (.slice iA il ic) (.slice dA dl dc) (.bool (f.kind != 3))
  have H7 := Lib.hid (And.intro h7 (HY.out.keep hch (fun j hj e => by have e : j = b := e; subst e; rw [H6.out.nd.ob] at hj; exact cl_ne0 i 0 hj)))
  clear hch h7
  go_ret2
  have he : sendN s f now = { s with seq := sq, sasn := now, skind := f.kind, ssrc := f.src, sdst := f.dst, sseq := f.seq, sopen := f.kind != 3 } := by rw [HSQ.out]; rfl
  rw [HP.out, he]
  exact ⟨_, o, { r with ia := iA, il := il, ic := ic, da := dA, dl := dl, dc := dc }, rfl, H7.out.1, y, rfl, H7.out.2⟩
end
end Go.Proofs.YtnpihllannobgaaGreatDoor
namespace Go.Proofs.YtnpihllannobgaaGreatDoor
set_option linter.unusedVariables false
set_option linter.unusedSimpArgs false
open Go.ChangeShapes Go.WideShapes Go.ChangeAt Go.RowKit

structure PlanOk (i : Nat) (s : NSt) : Prop where
  p : s.synced = true → i ≠ 0 → s.p ≠ none
  k : firstN s ≠ 64 → s.k ≠ none
  q : s.q.length ≤ 1000 ∧ ∀ p ∈ s.q, p.2.length ≤ 1000
  seq : 0 ≤ s.seq ∧ s.seq ≤ 255
  slots : 0 ≤ s.slots ∧ s.slots ≤ 1000000
  base : -1000000000000000 ≤ s.base ∧ s.base ≤ 1000000000000000
  sum : -1000000000000000 ≤ s.sum ∧ s.sum ≤ 1000000000000000
structure AckOk (c : Cfg) (i : Nat) (s : NSt) (L : List Int) (now : Int) : Prop where
  ev : s.ev = []
  len : L.length ≤ 100000
  c : (s.synced = false ∨ s.sopen = false ∨ s.sasn ≠ now) ∨
    (s.skind ≠ 1 ∧ (-1000000000000000 ≤ s.base ∧ s.base ≤ 1000000000000000) ∧ (s.p ≠ none → s.k ≠ none) ∧ (0 ≤ s.sdst ∧ s.sdst < c.nodes) ∧ s.sdst ≠ i)
structure EndOk (c : Cfg) (i : Nat) (s : NSt) (now : Int) : Prop where
  ev : s.ev = []
  c : (i = 0 ∨ s.synced = false) ∨ ∃ R L x, s.p = some (R, L) ∧ s.k = some x ∧ firstN (pN (kN s (some (tickK x))) (some (R, keptL L now c.loss))) ≠ 64
section
variable {w0 w w' : World} {o0 o o' : Cls} {c : Cfg} {i b : Nat} {s s' : NSt} {r r' : NR}
theorem nplan_all (hc : CfgOk c) (h : NAt w0 o0 c i b s w o r) (now : Int) (h0 : 0 ≤ now) (h1 : now < 1099511627776) (hk : PlanOk i s) :
    Calls Tryz.prog 32 #[.pointer (some ⟨b, 0, none⟩), .int .i64 now] w (PPlan w0 o0 c i b (planN c i s now)) := by
  by_cases hs : s.synced = true
  · by_cases hm : now % (c.nodes : Int) = i
    · exact nplan_send hc h now h0 h1 hs hm (hk.p hs) hk.k hk.q.1 hk.q.2 hk.seq
    · exact nplan_idle hc h now h0 h1 hs hm
  · exact nplan_off hc h now h0 h1 (by simpa using hs) hk.slots
theorem nack_all (hc : CfgOk c) (h : NAt w0 o0 c i b s w o r) (now m : Int) (v : Value) (L : List Int) (hv : BO w o v L) (hk : AckOk c i s L now) (h0 : 0 ≤ now) :
    Calls Tryz.prog 36 #[.pointer (some ⟨b, 0, none⟩), .int .i64 now, v, .int .i64 m] w (PN w0 o0 c i b (noEv (ackN i s L now)) (fun v w' o' => Eo w' o' (cl i 9) v (ackN i s L now).ev)) := by
  by_cases hcl : s.synced = false ∨ s.sopen = false ∨ s.sasn ≠ now
  · have e : ackN i s L now = s := by
      unfold ackN
      rcases hcl with h | h | h
      · rw [h]; simp
      · rw [h]; simp
      · rw [decide_eq_false h]; simp
    rw [e]
    refine (nack_closed h now m v hcl).mono (fun en w' hp => ?_)
    obtain ⟨rfl, rfl⟩ := hp
    rw [noEv_same hk.ev, hk.ev]
    exact ⟨_, o, r, rfl, h, Eo.nil _ _ _⟩
  · rcases hk.c with hx | ⟨k1, k2, k3, k4, k5⟩
    · exact absurd hx hcl
    · simp only [not_or, ne_eq, Classical.not_not] at hcl
      have hn := hc.n1
      exact nack_any h now m v L hv hk.len ⟨by simpa using hcl.1, by simpa using hcl.2.1, hcl.2.2⟩ k1 hk.ev k2 k3 ⟨k4.1, by omega⟩ k5 h0
theorem ack_evp {L : List Int} {now : Int} (hk : AckOk c i s L now) : EvP i c.nodes (ackN i s L now).ev ∧ (ackN i s L now).ev.length ≤ 10 := by
  unfold ackN
  split
  · rename_i h1
    split
    · split
      · rename_i h3
        rcases hk.c with hx | ⟨k1, k2, k3, k4, k5⟩
        · simp only [Bool.and_eq_true, decide_eq_true_eq] at h1
          rcases hx with h | h | h
          · rw [h] at h1; cases h1.1.1
          · rw [h] at h1; cases h1.1.2
          · exact absurd h1.2 h
        · have hE : EvP i c.nodes (opnN s false).ev := by show EvP i c.nodes s.ev; rw [hk.ev]; exact EvP.nil _ _
          obtain ⟨a1, a2⟩ := hearsN_evp hE s.sdst (rankF (decF L).2 now).1 now (ticksF (decF L).2) k4
          refine ⟨a1, ?_⟩
          have : (opnN s false).ev.length = 0 := by show s.ev.length = 0; rw [hk.ev]; rfl
          omega
      · show EvP i c.nodes s.ev ∧ s.ev.length ≤ 10
        rw [hk.ev]; exact ⟨EvP.nil _ _, by simp⟩
    · show EvP i c.nodes s.ev ∧ s.ev.length ≤ 10
      rw [hk.ev]; exact ⟨EvP.nil _ _, by simp⟩
  · rw [hk.ev]; exact ⟨EvP.nil _ _, by simp⟩
theorem nend_all (hc : CfgOk c) (h : NAt w0 o0 c i b s w o r) (now : Int) (h0 : 0 ≤ now) (h1 : now < 1099511627776) (hk : EndOk c i s now) :
    Calls Tryz.prog 38 #[.pointer (some ⟨b, 0, none⟩), .int .i64 now] w (PN w0 o0 c i b (noEv (endS c i s now)) (fun v w' o' => Eo w' o' (cl i 9) v (endS c i s now).ev)) := by
  by_cases ho : i = 0 ∨ s.synced = false
  · have e : endS c i s now = s := by unfold endS; rw [if_pos ho]
    rw [e]
    refine (nend_off h now h0 h1 ho).mono (fun en w' hp => ?_)
    obtain ⟨rfl, rfl⟩ := hp
    rw [noEv_same hk.ev, hk.ev]
    exact ⟨_, o, r, rfl, h, Eo.nil _ _ _⟩
  · rcases hk.c with hx | ⟨R, L, x, k1, k2, k3⟩
    · exact absurd hx ho
    · have e : endS c i s now = endN i s R L x now c.loss := by unfold endS; rw [if_neg ho, k1, k2]
      rw [e]
      simp only [not_or] at ho
      exact nend_keep hc h now h0 h1 ho.1 (by simpa using ho.2) R L x k1 k2 (by rw [hk.ev]; simp) k3
theorem end_evp {now : Int} (hk : EndOk c i s now) : EvP i c.nodes (endS c i s now).ev ∧ (endS c i s now).ev.length ≤ 10 := by
  unfold endS
  split
  · rw [hk.ev]; exact ⟨EvP.nil _ _, by simp⟩
  · split
    · unfold endN followsN
      split
      · show EvP i c.nodes s.ev ∧ s.ev.length ≤ 10
        rw [hk.ev]; exact ⟨EvP.nil _ _, by simp⟩
      · show EvP i c.nodes (s.ev ++ [_]) ∧ (s.ev ++ [_]).length ≤ 10
        rw [hk.ev]
        exact ⟨EvP.snoc (EvP.nil _ _) _ (fun e => by rcases e with e | e <;> cases e) (fun e => by cases e), by simp⟩
    · rw [hk.ev]; exact ⟨EvP.nil _ _, by simp⟩
end
end Go.Proofs.YtnpihllannobgaaGreatDoor
namespace Go.Proofs.YtnpihllannobgaaGreatDoor
set_option linter.unusedVariables false
set_option linter.unusedSimpArgs false
open Go.ChangeShapes Go.WideShapes Go.ChangeAt Go.RowKit

theorem own_setS {w : World} {base e s n cap g : Nat} {xs : List Value} (h : w.ownsRow base e s (.slice (some ⟨g, 0, none⟩) n cap) n xs) (i : Nat) (x : Value) (hi : i < n * s) :
    (w.setCell ⟨g, i, none⟩ x).ownsRow base e s (.slice (some ⟨g, 0, none⟩) n cap) n (xs.set i x) := by
  rcases h.2 with ⟨e1, _⟩ | ⟨g2, c2, cur, e1, h1, h2, h3, h4, h5, h6⟩
  · cases e1
  · cases e1
    refine ⟨by rw [List.length_set]; exact h.1, .inr ⟨g, cap, cur.setIfInBounds i x, rfl, h1, block_set h2 i x, h3, h4, by simp [h5], ?_⟩⟩
    rw [Array.toList_setIfInBounds, List.take_set, h6]
theorem flat_set (ps : List (Snd × Value)) (i : Nat) (p : Snd × Value) (hi : i < ps.length) :
    ((((ps.flatMap cellsS).set (i * 3) (.int .i64 p.1.1)).set (i * 3 + 1) p.2).set (i * 3 + 2) (.int .i64 p.1.2.2)) = (ps.set i p).flatMap cellsS := by
  induction ps generalizing i with
  | nil => simp at hi
  | cons a t ih =>
    cases i with
    | zero => simp [cellsS]
    | succ i =>
      have := ih i (by simpa using hi)
      rw [List.set_cons_succ, List.flatMap_cons, List.flatMap_cons, ← this]
      have e : cellsS a = [.int .i64 a.1.1, a.2, .int .i64 a.1.2.2] := rfl
      rw [e]
      rw [show (i + 1) * 3 = i * 3 + 1 + 1 + 1 by omega]
      simp [List.set_cons_succ]
section
variable {w0 w w' : World} {o0 o o' : Cls} {c : Cfg} {W : Nat} {x x' : WM} {asn : Int} {r r' : WR} {d : Dr} {dr lo ac er da : Value} {S : Nat → Prop}
/-- an entry of what is in the air is set. -/
theorem WAt.seta (h : WAt w0 o0 c W x asn w o r) (hc : c.nodes ≤ 16) {g n cap : Nat} {air : List Snd} (hb : Ao w o (.slice (some ⟨g, 0, none⟩) n cap) air) (hg : w0.heap.size ≤ g) (i : Nat) (hi : i < air.length) (ch off : Int) (L : List Int) (u : Value) (ha : BO w o u L) :
    WAt w0 o0 c W x asn (((w.setCell ⟨g, i * 3, none⟩ (.int .i64 ch)).setCell ⟨g, i * 3 + 1, none⟩ u).setCell ⟨g, i * 3 + 2, none⟩ (.int .i64 off)) o r ∧
    Ao (((w.setCell ⟨g, i * 3, none⟩ (.int .i64 ch)).setCell ⟨g, i * 3 + 1, none⟩ u).setCell ⟨g, i * 3 + 2, none⟩ (.int .i64 off)) o (.slice (some ⟨g, 0, none⟩) n cap) (air.set i (ch, L, off)) ∧
    Chg (fun k => k = g) w (((w.setCell ⟨g, i * 3, none⟩ (.int .i64 ch)).setCell ⟨g, i * 3 + 1, none⟩ u).setCell ⟨g, i * 3 + 2, none⟩ (.int .i64 off)) ∧ o g = cl 16 5 := by
  obtain ⟨ps, h1, h2, h3, h4⟩ := hb
  have hog : o g = cl 16 5 := h2 g rfl
  have G : Chg (fun k => k = g) w (((w.setCell ⟨g, i * 3, none⟩ (.int .i64 ch)).setCell ⟨g, i * 3 + 1, none⟩ u).setCell ⟨g, i * 3 + 2, none⟩ (.int .i64 off)) := ((chg1 _ _ _ _).trans (chg1 _ _ _ _)).trans (chg1 _ _ _ _)
  have hl : ps.length = air.length := by rw [h4, List.length_map]
  have hn : n = ps.length := by
    rcases own_val h1 with ⟨e, _⟩ | ⟨g2, c2, e, _⟩
    · cases e
    · cases e; rfl
  have n0 : ∀ k, o k = 0 → ¬ (k = g) := fun k hk e => by subst e; rw [hog] at hk; exact cl_ne0 16 5 hk
  refine ⟨h.other (Ext.refl _ _) (h.z.more G.size) G hc (fun k hk => ⟨by rw [hk, hog]; unfold cl; omega, by rw [hk]; exact hg⟩), ⟨ps.set i ((ch, L, off), u), ?_, h2, fun p hp => ?_, by rw [List.map_set, ← h4]⟩, G, hog⟩
  · rw [hn] at h1 ⊢
    have k1 := own_setS (own_setS (own_setS h1 (i * 3) (.int .i64 ch) (by omega)) (i * 3 + 1) u (by omega)) (i * 3 + 2) (.int .i64 off) (by omega)
    rw [List.length_set, ← flat_set ps i ((ch, L, off), u) (by omega)]
    exact k1
  · rcases List.mem_or_eq_of_mem_set hp with hp | hp
    · exact (h3 p hp).step (Ext.refl _ _) G n0
    · subst hp; exact ha.step (Ext.refl _ _) G n0
/-- the number of the slot is set. -/
theorem WAt.aset (h : WAt w0 o0 c W x asn w o r) (hc : c.nodes ≤ 16) (a : Int) : WAt w0 o0 c W x a (w.setCell ⟨W, 10, none⟩ (.int .i64 a)) o r := by
  have hd := h.wd
  have G := chg1 w W 10 (.int .i64 a)
  obtain ⟨n0, nj, nm⟩ := part_no (S := fun k => k = W) (o := o) (m := 0) (by omega) (fun k hk => by rw [hk]; exact hd.ob)
  refine ⟨⟨block_set hd.blk 10 _, hd.ob, hd.near.step (Ext.refl _ _) G n0, hd.hops.step (Ext.refl _ _) G n0, own_chg hd.row G (fun k hk => nj 1 (by omega) (by omega) k (hd.rowo k hk)), hd.rowo,
    own_chg hd.bnd G (fun k hk => nj 2 (by omega) (by omega) k (hd.bndo k hk)), hd.bndo, hd.inj.keep G (nj 3 (by omega) (by omega) _ hd.injo), hd.injo, hd.ev.step (Ext.refl _ _) G (fun k hk => hk.elim (n0 k) (nj 4 (by omega) (by omega) k)), hd.nl, hd.nds (Ext.refl _ _) G n0 nm hc⟩,
    h.z.more G.size, h.ext, h.chg.extW h.ext (G.mono (fun k _ hk => by unfold WdS; rw [hk, hd.ob]; exact ⟨cl_ne0 16 0, by unfold cl; omega⟩))⟩
/-- a new map of what is put into the air. -/
theorem WAt.iset (h : WAt w0 o0 c W x asn w o r) (hc : c.nodes ≤ 16) : ∃ o', WAt w0 o0 c W x asn ((w.alloc (.map #[] 0)).setCell ⟨W, 12, none⟩ (.map (some w.heap.size))) o' { r with inj := w.heap.size } := by
  have hd := h.wd
  have ga := Chg.alloc (fun _ => False) w (.map #[] 0)
  have hWl := lt_of_block hd.blk
  have hsz : (w.alloc (.map #[] 0)).heap.size = w.heap.size + 1 := by simp
  have G := chg1 (w.alloc (.map #[] 0)) W 12 (.map (some w.heap.size))
  have G2 : Chg (fun k => k = W) w ((w.alloc (.map #[] 0)).setCell ⟨W, 12, none⟩ (.map (some w.heap.size))) := ga.none.trans G
  obtain ⟨n0, nj, nm⟩ := part_no (S := fun k => k = W) (o := o) (m := 0) (by omega) (fun k hk => by rw [hk]; exact hd.ob)
  have hE := Ext.cls (w := w) o w.heap.size (cl 16 3) (Nat.le_refl _)
  refine ⟨cls o w.heap.size (cl 16 3), ⟨block_set (Chg.keep ga hd.blk (fun e => e)) 12 _, by rw [hE W hWl]; exact hd.ob, hd.near.step hE G2 n0, hd.hops.step hE G2 n0, own_chg hd.row G2 (fun k hk => nj 1 (by omega) (by omega) k (hd.rowo k hk)),
    fun k hk => by rw [hE k (own_inS hd.row hk).2]; exact hd.rowo k hk, own_chg hd.bnd G2 (fun k hk => nj 2 (by omega) (by omega) k (hd.bndo k hk)), fun k hk => by rw [hE k (own_inS hd.bnd hk).2]; exact hd.bndo k hk,
    (Mp.made w).keep G (by omega), cls_at _ _ _, hd.ev.step hE G2 (fun k hk => hk.elim (n0 k) (nj 4 (by omega) (by omega) k)), hd.nl, hd.nds hE G2 n0 nm hc⟩,
    (h.z.more G2.size).cls _ (by have := G.size; omega), h.ext.trans hE h.chg.size, h.chg.extW h.ext (G2.mono (fun k _ hk => by unfold WdS; rw [hk, hd.ob]; exact ⟨cl_ne0 16 0, by unfold cl; omega⟩))⟩
end
end Go.Proofs.YtnpihllannobgaaGreatDoor
