/- What a node does with what it hears. The rank that a frame says. A node adopts. What does not ask for an answer gets none. What a decoded frame may be. No condition. -/
import Derived.Test.YtnpihllannobgaaGreatDoorG16
namespace Go.Proofs.YtnpihllannobgaaGreatDoor
set_option linter.unusedVariables false
set_option linter.unusedSimpArgs false
open Go.ChangeShapes Go.WideShapes Go.ChangeAt Go.RowKit

def kN (s : NSt) (x : Option Int) : NSt := { s with k := x }
def pN (s : NSt) (x : Option (Int × List Pa)) : NSt := { s with p := x }
def moveN (s : NSt) (n : Int) : NSt := clkN s (cutf (s.base + cutf n 1000000) 1000000000000) s.sum s.slots
def movesN (i : Nat) (s : NSt) (src n : Int) : NSt := evN (kN (moveN s n) (some 0)) ⟨7, i, src, 0, pk0⟩
def followsN (i : Nat) (s : NSt) (was : Int) : NSt := if firstN s = was ∨ firstN s = 64 then s else evN s ⟨6, i, firstN s, 0, pk0⟩
def heardN (s : NSt) (src rank now : Int) : NSt := pN s (match s.p with | none => none | some (R, L) => some (hearL R L src rank now))
def hears1N (i : Nat) (s : NSt) (src ticks : Int) : NSt := if firstN s = src then movesN i s src ticks else s
def hearsN (i : Nat) (s : NSt) (src rank now ticks : Int) : NSt := followsN i (hears1N i (heardN s src rank now) src ticks) (firstN s)
theorem hearL_len (R : Int) (L : List Pa) (node rank now : Int) (h : L.length ≤ 3) : (hearL R L node rank now).2.length ≤ 3 := by
  unfold hearL
  simp only []
  split
  · exact Nat.le_trans (List.length_filter_le _ _) h
  · simp only [List.length_take]; omega
theorem hearL_srt (R : Int) (L : List Pa) (node rank now : Int) (h : PSrt L) : PSrt (hearL R L node rank now).2 := by
  unfold hearL
  simp only []
  split
  · exact h.filter _
  · exact ((insP_srt _ _ (h.filter _)).filter _).take 3
theorem hearL_R (R : Int) (L : List Pa) (node rank now : Int) (h : 0 ≤ R ∧ R ≤ 255) (hr : 0 ≤ rank) : 0 ≤ (hearL R L node rank now).1 ∧ (hearL R L node rank now).1 ≤ 255 := by
  unfold hearL
  simp only []
  split
  · exact h
  · simp only []; omega
section
variable {w0 w w' : World} {o0 o o' : Cls} {c : Cfg} {i b : Nat} {s s' : NSt} {r r' : NR}
theorem NAt.kset (h : NAt w0 o0 c i b s w o r) {q : Nat} {x : Int} (hk : r.kv = .pointer (some ⟨q, 0, none⟩)) (hq : o q = cl i 7) (k : Kp w' q c.keep x) (hx : 0 ≤ x ∧ x ≤ 1000000) (g0 : Chg (· = q) w w') : NAt w0 o0 c i b (kN s (some x)) w' o r := by
  have g : Chg (Of o (cl i 7)) w w' := g0.mono (fun k _ e => by subst e; exact hq)
  refine h.part 7 (by omega) (Ext.refl _ _) (h.z.more g.size) g rfl (fun o0 o => ?_)
  obtain ⟨p1, p2, p3, p4, p5, p6, p7, p8, p9, pa, pb⟩ := h.nd.np
  exact ⟨p1.step (Ext.refl _ _) g o0, p2.step (Ext.refl _ _) g o0, p3.step (Ext.refl _ _) g (o 1 (by omega) (by omega)), p4.step (Ext.refl _ _) g (o 2 (by omega) (by omega)), p5.step (Ext.refl _ _) g (o 3 (by omega) (by omega)),
    p6.step (Ext.refl _ _) g (o 4 (by omega) (by omega)), p7.step (Ext.refl _ _) g (o 5 (by omega) (by omega)), p8.step (Ext.refl _ _) g (o 6 (by omega) (by omega)),
    ⟨q, hk, k, hq, hx⟩, pa.step (Ext.refl _ _) g (o 8 (by omega) (by omega)), pb.step (Ext.refl _ _) g (o 9 (by omega) (by omega))⟩
theorem NAt.pset (h : NAt w0 o0 c i b s w o r) {q : Nat} {v v' : Value} {R' : Int} {L' : List Pa} (hv : r.pv = .pointer (some ⟨q, 0, none⟩)) (hq : o q = cl i 6) (hvo : ∀ k, v.ownBlock = some k → o k = cl i 6)
    (g0 : Chg (PsS q v) w w') (P : Ps w' q v' i R' L') (hn : ∀ k, v'.ownBlock = some k → v.ownBlock = some k ∨ w.heap.size ≤ k) (hR : 0 ≤ R' ∧ R' ≤ 255) (hL : L'.length ≤ 3) (hS : PSrt L') :
    ∃ o', NAt w0 o0 c i b (pN s (some (R', L'))) w' o' r := by
  have g : Chg (Of o (cl i 6)) w w' := g0.mono (fun k _ e => by
    rcases e with e | e
    · subst e; exact hq
    · exact hvo k e)
  have hlq := h.nd.np.2.2.2.2.2.2.2.1
  have key : ∀ o', Ext w o o' → Z w' o' → (∀ k, v'.ownBlock = some k → o' k = cl i 6) → o' q = cl i 6 → NAt w0 o0 c i b (pN s (some (R', L'))) w' o' r := by
    intro o' E Zz hk hq'
    refine h.part 6 (by omega) E Zz g rfl (fun o0 o => ?_)
    obtain ⟨p1, p2, p3, p4, p5, p6, p7, p8, p9, pa, pb⟩ := h.nd.np
    exact ⟨p1.step E g o0, p2.step E g o0, p3.step E g (o 1 (by omega) (by omega)), p4.step E g (o 2 (by omega) (by omega)), p5.step E g (o 3 (by omega) (by omega)),
      p6.step E g (o 4 (by omega) (by omega)), p7.step E g (o 5 (by omega) (by omega)), ⟨q, v', hv, P, hq', hk, hR.1, hR.2, hL, hS⟩,
      p9.step E g (o 7 (by omega) (by omega)), pa.step E g (o 8 (by omega) (by omega)), pb.step E g (o 9 (by omega) (by omega))⟩
  by_cases hcase : ∃ k, v'.ownBlock = some k ∧ w.heap.size ≤ k
  · obtain ⟨k, hk1, hk2⟩ := hcase
    have hkl : k < w'.heap.size := (own_inS P.row hk1).2
    have hqk : q ≠ k := fun e => P.ne hk1 e.symm
    exact ⟨_, key (cls o k (cl i 6)) (Ext.cls o k _ hk2) ((h.z.more g.size).cls _ hkl) (fun k' hk' => by rw [hk1] at hk'; cases hk'; exact cls_at _ _ _) (by rw [cls_ne _ _ _ hqk]; exact hq)⟩
  · exact ⟨_, key o (Ext.refl _ _) (h.z.more g.size) (fun k hk => by
      rcases hn k hk with h1 | h1
      · exact hvo k h1
      · exact absurd ⟨k, hk, h1⟩ hcase) hq⟩
set_option maxRecDepth 100000 in
theorem nmoves_any (h : NAt w0 o0 c i b s w o r) (src n : Int) (hn : s.ev.length ≤ 1000) (hb : -1000000000000000 ≤ s.base ∧ s.base ≤ 1000000000000000) (hk : s.k ≠ none) :
    Calls Tryz.prog 159 #[.pointer (some ⟨b, 0, none⟩), .int .i64 src, .int .i64 n] w (PN w0 o0 c i b (movesN i s src n) (fun v _ _ => v = .tuple #[])) := by
  have c1 : w.cell? ⟨b, 10, none⟩ = some (.pointer (some ⟨r.clk, 0, none⟩)) := h.cell 10
  have hm := ckmove_any w r.clk s.base s.sum s.slots n h.nd.np.2.2.1.1 hb
  have HM := Lib.hid hm
  have HC := Lib.hid (fun w' k g => h.clk (w' := w') (x := cutf (s.base + cutf n 1000000) 1000000000000) (y := s.sum) (z := s.slots) k g)
  have H := Lib.hid h
  obtain ⟨x, hx⟩ := Option.ne_none_iff_exists'.1 hk
  obtain ⟨q, hq⟩ : ∃ q, q = r.clk := ⟨_, rfl⟩
  rw [← hq] at c1 HM HC
  have HX := Lib.hid hx
  obtain ⟨F, hF⟩ : ∃ F, F = movesN i s src n := ⟨_, rfl⟩
  rw [← hF]
  have HF := Lib.hid hF
  clear h hm hk hx hq hF
  go_enter Tryz.func159, Tryz.ntmps159
  go_wp2_with fail
  (with_reducible refine HM.out.mono ?_)
  rintro en w1 ⟨rfl, k1, k2⟩
  have h1 := HC.out _ k1 k2
  have H1 := Lib.hid (show NAt w0 o0 c i b (moveN s n) w1 o r from h1)
  clear h1 k1 k2 HC HM c1
  have hko := H1.out.nd.np.2.2.2.2.2.2.2.2.1
  have e : (moveN s n).k = some x := HX.out
  rw [e] at hko
  obtain ⟨kb, hk1, hk2, hk3, hk4⟩ := hko
  have c3 : w1.cell? ⟨b, 20, none⟩ = some r.kv := H1.out.cell 20
  rw [hk1] at c3
  have HK := Lib.hid (kpheard_any w1 kb c.keep x hk2)
  have HK2 := Lib.hid (fun w' k g => H1.out.kset (w' := w') (x := 0) hk1 hk3 k (by omega) g)
  clear e hk1 hk2 hk3 hk4
  go_wp2_with fail
  (with_reducible refine HK.out.mono ?_)
  rintro en w2 ⟨rfl, k1, k2⟩
  have H2 := Lib.hid (HK2.out _ k1 k2)
  clear k1 k2 HK HK2 H1 c3
  have HV := Lib.hid (nevent_any H2.out 7 src hn)
  go_wp2_with fail
  (with_reducible refine HV.out.mono ?_)
  rintro en w3 ⟨v, o3, r3, rfl, h3, rfl⟩
  have H3 := Lib.hid h3
  clear h3 H2
  go_wp2_with fail
  go_end0
  refine ⟨_, o3, r3, rfl, ?_, rfl⟩
  rw [HF.out]
  exact H3.out
set_option maxRecDepth 100000 in
theorem nfollows_any (h : NAt w0 o0 c i b s w o r) (was : Int) (hn : s.ev.length ≤ 1000) :
    Calls Tryz.prog 75 #[.pointer (some ⟨b, 0, none⟩), .int .i64 was] w (PN w0 o0 c i b (followsN i s was) (fun v _ _ => v = .tuple #[])) := by
  have HN := Lib.hid (nfirst_any h)
  have HK := Lib.hid (fun w' g => h.kept (w' := w') g)
  obtain ⟨F, hF⟩ : ∃ F, F = followsN i s was := ⟨_, rfl⟩
  rw [← hF]
  unfold followsN at hF
  obtain ⟨f, hf⟩ : ∃ f, f = firstN s := ⟨_, rfl⟩
  rw [← hf] at hF HN
  have HF := Lib.hid hF
  clear h hF hf
  by_cases h1 : f = was
  · subst h1
    go_enter Tryz.func75, Tryz.ntmps75
    go_wp2_with fail
    (with_reducible refine HN.out.mono ?_)
    rintro en w1 ⟨rfl, g⟩
    have H1 := Lib.hid (HK.out _ g)
    clear g
    go_wp2_with fail
    go_end0
    refine ⟨_, o, r, rfl, ?_, rfl⟩
    rw [HF.out, if_pos (by simp)]
    exact H1.out
  · have e1 : (f != was) = true := by simpa using h1
    by_cases h2 : f = 64
    · subst h2
      go_enter Tryz.func75, Tryz.ntmps75
      go_wp2_with fail
      (with_reducible refine HN.out.mono ?_)
      rintro en w1 ⟨rfl, g⟩
      have H1 := Lib.hid (HK.out _ g)
      clear g
      go_wp2_with fail
      go_end0
      refine ⟨_, o, r, rfl, ?_, rfl⟩
      rw [HF.out, if_pos (by simp)]
      exact H1.out
    · have e2 : (f != 64) = true := by simpa using h2
      go_enter Tryz.func75, Tryz.ntmps75
      go_wp2_with fail
      (with_reducible refine HN.out.mono ?_)
      rintro en w1 ⟨rfl, g⟩
      have H1 := Lib.hid (HK.out _ g)
      clear g
      go_wp2_with fail
      (with_reducible refine (nevent_any H1.out 6 f hn).mono ?_)
      rintro en w3 ⟨v, o3, r3, rfl, h3, rfl⟩
      have H3 := Lib.hid h3
      clear h3
      go_wp2_with fail
      go_end0
      refine ⟨_, o3, r3, rfl, ?_, rfl⟩
      rw [HF.out, if_neg (by intro h; rcases h with h | h; exact h1 h; exact h2 h)]
      exact H3.out
theorem hears1_ev (i : Nat) (s : NSt) (src ticks : Int) : (hears1N i s src ticks).ev.length ≤ s.ev.length + 1 := by
  unfold hears1N
  split
  · show (s.ev ++ _).length ≤ _; simp
  · omega
set_option maxRecDepth 100000 in
theorem nhears_any (h : NAt w0 o0 c i b s w o r) (src rank now ticks : Int) (hn : s.ev.length ≤ 900) (hb : -1000000000000000 ≤ s.base ∧ s.base ≤ 1000000000000000) (hk : s.k ≠ none) (hp : s.p ≠ none)
    (hs : 0 ≤ src ∧ src ≤ 15) (hm : src ≠ i) (hr : 0 ≤ rank ∧ rank ≤ 255) (ht : 0 ≤ now) :
    Calls Tryz.prog 107 #[.pointer (some ⟨b, 0, none⟩), .int .i64 src, .int .i64 rank, .int .i64 now, .int .i64 ticks] w (PN w0 o0 c i b (hearsN i s src rank now ticks) (fun v _ _ => v = .tuple #[])) := by
  have HN := Lib.hid (nfirst_any h)
  have HK := Lib.hid (fun w' g => h.kept (w' := w') g)
  obtain ⟨⟨R, L⟩, hx⟩ := Option.ne_none_iff_exists'.1 hp
  obtain ⟨F, hF⟩ : ∃ F, F = hearsN i s src rank now ticks := ⟨_, rfl⟩
  rw [← hF]
  unfold hearsN at hF
  obtain ⟨was, hw⟩ : ∃ f, f = firstN s := ⟨_, rfl⟩
  rw [← hw] at hF HN
  have hs1 : heardN s src rank now = pN s (some (hearL R L src rank now)) := by unfold heardN; rw [hx]
  rw [hs1] at hF
  have HF := Lib.hid hF
  clear h hF hw hs1 hp
  go_enter Tryz.func107, Tryz.ntmps107
  go_wp2_with fail
  (with_reducible refine HN.out.mono ?_)
  rintro en w1 ⟨rfl, g⟩
  have H1 := Lib.hid (HK.out _ g)
  clear g HK HN
  have hpo := H1.out.nd.np.2.2.2.2.2.2.2.1
  rw [hx] at hpo
  obtain ⟨pb, row, e1, hP, hq1, hq2, hR0, hR1, hL, hS⟩ := hpo
  have c3 : w1.cell? ⟨b, 19, none⟩ = some r.pv := H1.out.cell 19
  rw [e1] at c3
  have HH := Lib.hid (pshear_any w1 pb row i R L src rank now hP hL hS hs hm hr ht ⟨hR0, hR1⟩)
  have HS := Lib.hid (fun w' v' g P hn => H1.out.pset (w' := w') (v' := v') e1 hq1 hq2 g P hn (hearL_R R L src rank now ⟨hR0, hR1⟩ hr.1) (hearL_len R L src rank now hL) (hearL_srt R L src rank now hS))
  clear e1 hP hq1 hq2 hR0 hR1 hL hS
  go_wp2_with fail
  (with_reducible refine HH.out.mono ?_)
  rintro en w2 ⟨t, v', rfl, hP2, hg2, hv2⟩
  obtain ⟨o2, h2⟩ := HS.out w2 v' hg2 hP2 hv2
  have H2 := Lib.hid h2
  clear h2 hP2 hg2 hv2 HS HH H1 c3
  obtain ⟨s1, hs1⟩ : ∃ s1, s1 = pN s (some (hearL R L src rank now)) := ⟨_, rfl⟩
  have hn1 : s1.ev.length ≤ 900 := by rw [hs1]; exact hn
  have hb1 : -1000000000000000 ≤ s1.base ∧ s1.base ≤ 1000000000000000 := by rw [hs1]; exact hb
  have hk1 : s1.k ≠ none := by rw [hs1]; exact hk
  have HF1 := Lib.hid HF.out
  have H2 := Lib.hid (show NAt w0 o0 c i b (pN s (some (hearL R L src rank now))) w2 o2 r from H2.out)
  rw [← hs1] at H2 HF1
  clear hs1 hn hb hk hx HF
  have HN2 := Lib.hid (nfirst_any H2.out)
  have HK2 := Lib.hid (fun w' g => H2.out.kept (w' := w') g)
  obtain ⟨f, hf⟩ : ∃ f, f = firstN s1 := ⟨_, rfl⟩
  rw [← hf] at HN2
  have HFS := Lib.hid hf
  clear H2 hf
  have hev := hears1_ev i s1 src ticks
  by_cases hfs : f = src
  · subst hfs
    have e0 : (f == f) = true := by simp
    go_wp2_with fail
    (with_reducible refine HN2.out.mono ?_)
    rintro en w3 ⟨rfl, g⟩
    have H3 := Lib.hid (HK2.out _ g)
    have HM := Lib.hid (nmoves_any H3.out f ticks (by omega) hb1 hk1)
    clear g HK2 HN2
    go_wp2_with fail
    (with_reducible refine HM.out.mono ?_)
    rintro en w4 ⟨v, o4, r4, rfl, h4, rfl⟩
    have hs2 : hears1N i s1 f ticks = movesN i s1 f ticks := by unfold hears1N; rw [← HFS.out]; simp
    rw [← hs2] at h4
    have HW := Lib.hid (nfollows_any h4 was (by omega))
    clear h4 HM H3
    go_wp2_with fail
    (with_reducible refine HW.out.mono ?_)
    rintro en w5 ⟨v, o5, r5, rfl, h5, rfl⟩
    have H5 := Lib.hid h5
    clear h5 HW
    go_wp2_with fail
    go_end0
    refine ⟨_, o5, r5, rfl, ?_, rfl⟩
    rw [HF1.out]
    exact H5.out
  · have e0 : (f == src) = false := by simpa using hfs
    go_wp2_with fail
    (with_reducible refine HN2.out.mono ?_)
    rintro en w3 ⟨rfl, g⟩
    have h3 := HK2.out _ g
    have hs2 : hears1N i s1 src ticks = s1 := by unfold hears1N; rw [← HFS.out, if_neg hfs]
    rw [← hs2] at h3
    have HW := Lib.hid (nfollows_any h3 was (by omega))
    clear h3 g HK2 HN2
    go_wp2_with fail
    (with_reducible refine HW.out.mono ?_)
    rintro en w5 ⟨v, o5, r5, rfl, h5, rfl⟩
    have H5 := Lib.hid h5
    clear h5 HW
    go_wp2_with fail
    go_end0
    refine ⟨_, o5, r5, rfl, ?_, rfl⟩
    rw [HF1.out]
    exact H5.out
end
end Go.Proofs.YtnpihllannobgaaGreatDoor
namespace Go.Proofs.YtnpihllannobgaaGreatDoor
set_option linter.unusedVariables false
set_option linter.unusedSimpArgs false
open Go.ChangeShapes Go.WideShapes Go.ChangeAt Go.RowKit

def rankF (f : Fr) (now : Int) : Int × Bool := match findE f.ies 1 with | none => (0, false) | some e => (e.rank, e.asn == now)
set_option maxRecDepth 100000 in
theorem nrankf_any (w : World) (own : Cls) (f : Fr) (iv : Value) (B : Option Addr) (m cb : Nat) (now : Int) (hi : IeO w own iv f.ies) (hE : f.ies.length ≤ 100000) (hll : ∀ e ∈ f.ies, e.list.length ≤ 100000) :
    Calls Tryz.prog 66 #[frV f iv (.slice B m cb), .int .i64 now] w (PV (.tuple #[.int .i64 (rankF f now).1, .bool (rankF f now).2]) w) := by
  have ga := Chg.alloc (fun _ => False) w (.cells #[.int .i64 f.kind, .int .i64 f.src, .int .i64 f.dst, .int .i64 f.seq, iv, .slice B m cb] 71)
  have hba := block_alloc w (.cells #[.int .i64 f.kind, .int .i64 f.src, .int .i64 f.dst, .int .i64 f.seq, iv, .slice B m cb] 71)
  have hf := find_any _ own iv f.ies 1 (hi.keep ga (fun _ _ e => e)) hE hll
  obtain ⟨A, c, e⟩ := hi.val
  obtain ⟨P, hP⟩ : ∃ P, P = PV (.tuple #[.int .i64 (rankF f now).1, .bool (rankF f now).2]) w := ⟨_, rfl⟩
  rw [← hP]
  have HP := Lib.hid hP
  obtain ⟨E, hE2⟩ : ∃ E, E = findE f.ies 1 := ⟨_, rfl⟩
  rw [← hE2] at hf
  have HEE := Lib.hid hE2
  obtain ⟨n, hn⟩ : ∃ n, n = f.ies.length := ⟨_, rfl⟩
  rw [← hn] at e
  subst e
  have HF := Lib.hid hf
  have HG := Lib.hid ga
  unfold frV
  clear hf ga hi hE hll hE2 hn hP
  have key : ∀ (x : El) (t : Bool), E.getD el0 = x → E.isSome = t → Calls Tryz.prog 66 #[.agg #[.int .i64 f.kind, .int .i64 f.src, .int .i64 f.dst, .int .i64 f.seq, .slice A n c, .slice B m cb], .int .i64 now] w
      (PV (.tuple #[.int .i64 x.rank, .bool (t && x.asn == now)]) w) := by
    intro x t hx ht
    have HF2 := Lib.hid HF.out
    unfold PFind at HF2
    rw [hx, ht] at HF2
    obtain ⟨b0, b1, b2, b3, b4, b5⟩ := cell6 hba
    clear hx ht HEE HF HP
    go_enter Tryz.func66, Tryz.ntmps66
    go_wp2_with fail
    (with_reducible refine HF2.out.mono ?_)
    rintro en w1 ⟨lv, rfl, hO, hG⟩
    have HG1 := Lib.hid (HG.out.trans hG)
    obtain ⟨lA, ln, lc, rfl⟩ : ∃ A n c, lv = .slice A n c := by
      rcases own_val hO with ⟨e, _⟩ | ⟨g, cap, e, _⟩
      · exact ⟨_, _, _, e⟩
      · exact ⟨_, _, _, e⟩
    unfold elV
    clear hO hG b0 b1 b2 b3 b4 b5 HF2 HG
    go_wp2_with fail
    have hgb := Chg.alloc (fun _ => False) w1 (.cells #[.int .i64 x.kind, .int .i64 x.asn, .int .i64 x.rank, .int .i64 x.ticks, .slice lA ln lc] 172)
    obtain ⟨d0, d1, d2, d3, d4⟩ := cell5 (block_alloc w1 (.cells #[.int .i64 x.kind, .int .i64 x.asn, .int .i64 x.rank, .int .i64 x.ticks, .slice lA ln lc] 172))
    have HG2 := Lib.hid (HG1.out.trans hgb)
    generalize hW : w1.alloc (.cells #[.int .i64 x.kind, .int .i64 x.asn, .int .i64 x.rank, .int .i64 x.ticks, .slice lA ln lc] 172) = W at d0 d1 d2 d3 d4 HG2 hgb ⊢
    obtain ⟨I, F, hI, hF, hFA⟩ := clsF W
    have c1 := cellF hF d1
    have c2 := cellF hF d2
    have HFF := Lib.hid hF
    have HFA := Lib.hid (hFA _ (Chg.drew _ _))
    clear hF hFA hba HG1 hgb d0 d1 d2 d3 d4 hW
    with_reducible refine wp_region_cls F (by kernel_rfl) (by kernel_rfl) HFA.out ?_
    cases t with
    | true =>
      repeat (with_reducible refine wpQuiet_step (fun K hK => ?_); go_simp; (with_reducible refine hK _ ?_; clear hK K))
      with_reducible refine wpQuiet_nil ?_
      intro _ hw'
      obtain ⟨nq, rfl⟩ := hw'
      have G := Lib.hid (HG2.out.trans (HFF.out nq))
      clear c1 c2 HFF HFA hI HG2
      generalize F nq = w2 at *
      go_wp2_with fail
      go_ret2
      refine ⟨?_, G.out⟩
      by_cases hq : x.asn = now <;> simp [hq]
    | false =>
      repeat (with_reducible refine wpQuiet_step (fun K hK => ?_); go_simp; (with_reducible refine hK _ ?_; clear hK K))
      with_reducible refine wpQuiet_nil ?_
      intro _ hw'
      obtain ⟨nq, rfl⟩ := hw'
      have G := Lib.hid (HG2.out.trans (HFF.out nq))
      clear c1 c2 HFF HFA hI HG2
      generalize F nq = w2 at *
      go_wp2_with fail
      go_ret2
      exact ⟨rfl, G.out⟩
  rw [HP.out]
  unfold rankF
  rw [← HEE.out]
  cases hEE : E with
  | none => exact (key el0 false (by rw [hEE]; rfl) (by rw [hEE]; rfl)).mono (fun e w' h => h)
  | some x => 
    have := key x true (by rw [hEE]; rfl) (by rw [hEE]; rfl)
    simpa using this
end Go.Proofs.YtnpihllannobgaaGreatDoor
namespace Go.Proofs.YtnpihllannobgaaGreatDoor
set_option linter.unusedVariables false
set_option linter.unusedSimpArgs false
open Go.ChangeShapes Go.WideShapes Go.ChangeAt Go.RowKit

def synN (s : NSt) (x : Bool) : NSt := { s with synced := x }
def adopt0N (s : NSt) (rk : Int) : NSt := kN (pN (synN s true) (some (rk + 1, []))) (some 0)
def adopt1N (s : NSt) (src rk now : Int) : NSt := pN (adopt0N s rk) (some (hearL (rk + 1) [] src rk now))
def adopt2N (i : Nat) (s : NSt) (src rk now ms : Int) : NSt :=
  evN (evN (movesN i (evN (adopt1N s src rk now) ⟨1, i, src, 0, pk0⟩) src ms) ⟨2, i, src, 0, pk0⟩) ⟨6, i, src, 0, pk0⟩
def adoptN (i : Nat) (c : Cfg) (s : NSt) (f : Fr) (rk now ms : Int) : NSt :=
  if f.kind = 3 ∧ rk ≤ 253 ∧ c.loss < s.listened then adopt2N i s f.src rk now ms else s
section
variable {w0 w w' : World} {o0 o o' : Cls} {c : Cfg} {i b : Nat} {s s' : NSt} {r r' : NR}
/-- two new parts. -/
theorem NAt.fresh2 (h : NAt w0 o0 c i b s w o r) (w5 : World) (G : Chg (fun _ => False) w w5) (pb kb : Nat) (rk : Int) (hpk : pb ≠ kb) (hp : w.heap.size ≤ pb) (hk : w.heap.size ≤ kb)
    (P : Ps w5 pb (.slice none 0 0) i rk []) (K : Kp w5 kb c.keep 0) (hr : 0 ≤ rk ∧ rk ≤ 255) :
    ∃ o' r', ∀ w6, (w6 = (w5.setCell ⟨b, 19, none⟩ (.pointer (some ⟨pb, 0, none⟩))).setCell ⟨b, 20, none⟩ (.pointer (some ⟨kb, 0, none⟩)) ∨ w6 = (w5.setCell ⟨b, 20, none⟩ (.pointer (some ⟨kb, 0, none⟩))).setCell ⟨b, 19, none⟩ (.pointer (some ⟨pb, 0, none⟩))) → NAt w0 o0 c i b (kN (pN s (some (rk, []))) (some 0)) w6 o' r' := by
  have hlb := lt_of_block h.nd.blk
  have hob := h.nd.ob
  obtain ⟨o', ho'⟩ : ∃ o', o' = cls (cls o pb (cl i 6)) kb (cl i 7) := ⟨_, rfl⟩
  have E : Ext w o o' := by rw [ho']; exact (Ext.cls o pb _ hp).trans (fun k hk2 => cls_ne _ _ _ (by omega)) (Nat.le_refl _)
  have hz5 : Z w5 o' := by rw [ho']; exact ((h.z.more G.size).cls _ (lt_of_block P.blk)).cls _ (lt_of_block K)
  have hpo : o' pb = cl i 6 := by rw [ho', cls_ne _ _ _ hpk, cls_at]
  have hko : o' kb = cl i 7 := by rw [ho', cls_at]
  have hpb : pb ≠ b := by omega
  have hkb : kb ≠ b := by omega
  refine ⟨o', { r with pv := .pointer (some ⟨pb, 0, none⟩), kv := .pointer (some ⟨kb, 0, none⟩) }, fun w6 hw6 => ?_⟩
  have hG : Chg (· = b) w5 w6 ∧ w6.heap[b]? = some (.cells (((cellsN c i r s).setIfInBounds 19 (.pointer (some ⟨pb, 0, none⟩))).setIfInBounds 20 (.pointer (some ⟨kb, 0, none⟩))) 75 (0, 0)) := by
    have hb0 := Chg.keep G h.nd.blk (fun e => e)
    rcases hw6 with hw6 | hw6
    · subst hw6
      exact ⟨(chg1 w5 b 19 _).trans (chg1 _ b 20 _), block_set (block_set hb0 19 _) 20 _⟩
    · subst hw6
      exact ⟨(chg1 w5 b 20 _).trans (chg1 _ b 19 _), by rw [Array.setIfInBounds_comm _ _ (by omega)]; exact block_set (block_set hb0 20 _) 19 _⟩
  obtain ⟨g, hbk⟩ := hG
  have GA : Chg (· = b) w w6 := G.none.trans g
  have hn0 : ∀ k, o k = 0 → ¬ k = b := fun k h1 e => by subst e; rw [hob] at h1; exact cl_ne0 i 0 h1
  have of : ∀ m, 1 ≤ m → m ≤ 9 → Off o (cl i m) (· = b) := fun m h1 h2 k hk e => by
    rcases hk with hk | hk
    · exact hn0 k hk e
    · subst e; have := (cl_inj (hob.symm.trans hk) (by omega) (by omega)).2; omega
  obtain ⟨p1, p2, p3, p4, p5, p6, p7, p8, p9, pa, pb'⟩ := h.nd.np
  refine h.next ⟨hbk, by rw [E b hlb]; exact hob, ?_⟩ (hz5.more g.size) E (GA.mono (fun q _ e => ⟨0, by omega, by rw [e]; exact hob⟩))
  exact ⟨p1.step E GA hn0, p2.step E GA hn0, p3.step E GA (of 1 (by omega) (by omega)), p4.step E GA (of 2 (by omega) (by omega)), p5.step E GA (of 3 (by omega) (by omega)),
      p6.step E GA (of 4 (by omega) (by omega)), p7.step E GA (of 5 (by omega) (by omega)),
      ⟨pb, .slice none 0 0, rfl, P.keep g (fun k hk e => hk.elim (fun h => by omega) (fun h => by cases h)), hpo, fun k hk => (by cases hk), hr.1, hr.2, Nat.zero_le _, List.Pairwise.nil⟩,
      ⟨kb, rfl, K.keep g hkb, hko, by omega, by omega⟩, pa.step E GA (of 8 (by omega) (by omega)), pb'.step E GA (of 9 (by omega) (by omega))⟩
set_option maxRecDepth 100000 in
set_option maxHeartbeats 16000000 in
theorem nadopt_any (hc : CfgOk c) (h : NAt w0 o0 c i b s w o r) (hi : i ≤ 15) (f : Fr) (iA : Option Addr) (il ic : Nat) (dA : Option Addr) (dl dc : Nat) (rk now ms : Int) (hn : s.ev.length ≤ 900) (hb : -1000000000000000 ≤ s.base ∧ s.base ≤ 1000000000000000)
    (hs : 0 ≤ f.src ∧ f.src ≤ 15) (hm : f.src ≠ i) (hr : 0 ≤ rk ∧ rk ≤ 255) (ht : 0 ≤ now) :
    Calls Tryz.prog 106 #[.pointer (some ⟨b, 0, none⟩), frV f (.slice iA il ic) (.slice dA dl dc), .int .i64 rk, .int .i64 now, .int .i64 ms] w (PN w0 o0 c i b (adoptN i c s f rk now ms) (fun v _ _ => v = .tuple #[])) := by
  obtain ⟨F, hF⟩ : ∃ F, F = adoptN i c s f rk now ms := ⟨_, rfl⟩
  rw [← hF]
  unfold adoptN at hF
  have HF := Lib.hid hF
  unfold frV
  have hba := block_alloc w (.cells #[.int .i64 f.kind, .int .i64 f.src, .int .i64 f.dst, .int .i64 f.seq, .slice iA il ic, .slice dA dl dc] 71)
  have ga := Chg.alloc (fun _ => False) w (.cells #[.int .i64 f.kind, .int .i64 f.src, .int .i64 f.dst, .int .i64 f.seq, .slice iA il ic, .slice dA dl dc] 71)
  have HB := Lib.hid hba
  have H := Lib.hid (h.kept ga)
  have HLB := Lib.hid (lt_of_block h.nd.blk)
  have HZ0 := Lib.hid (h.z _ (Nat.le_refl _))
  clear h hba ga hF
  go_enter Tryz.func106, Tryz.ntmps106
  go_wp2_with fail
  generalize hW : w.alloc (.cells #[.int .i64 f.kind, .int .i64 f.src, .int .i64 f.dst, .int .i64 f.seq, .slice iA il ic, .slice dA dl dc] 71) = w1 at *
  have HT := H
  have HBK := Lib.hid (show ∀ W s' o' r', NAt w1 o c i b s' W o' r' → W.heap[w.heap.size]? = some (.cells #[.int .i64 f.kind, .int .i64 f.src, .int .i64 f.dst, .int .i64 f.seq, .slice iA il ic, .slice dA dl dc] 71 (0, 0)) from
    fun W s' o' r' hN => Chg.keep hN.chg HB.out (fun e => by obtain ⟨j, _, e⟩ := e; rw [HZ0.out] at e; exact cl_ne0 i j e.symm))
  have H := Lib.hid (NAt.start HT.out.nd HT.out.z)
  obtain ⟨d0, d1, d2, d3, d4, d5⟩ := cell6 HB.out
  have c1 : w1.cell? ⟨b, 21, none⟩ = some (.int .i64 s.listened) := H.out.cell 21
  have c2 : w1.cell? ⟨b, 6, none⟩ = some (.int .i64 c.loss) := H.out.cell 6
  obtain ⟨I, F1, hI, hF1, hFA⟩ := clsF w1
  have e0 := cellF hF1 d0
  have e2 := cellF hF1 c1
  have e3 := cellF hF1 c2
  have e4 := cellF hF1 d1
  have e5 := cellF hF1 d2
  have HFF := Lib.hid hF1
  have HFA := Lib.hid (hFA _ (Chg.drew _ _))
  clear hF1 hFA d0 d1 d2 d3 d4 d5 c1 c2
  by_cases hk : f.kind = 3
  · have t1 : (f.kind != 3) = false := by simp [hk]
    by_cases hr2 : rk ≤ 253
    · have t2 : decide (253 < rk) = false := by simp; omega
      by_cases hl : c.loss < s.listened
      · have t3 : decide (s.listened ≤ c.loss) = false := by simp; omega
        with_reducible refine wp_region_cls F1 (by kernel_rfl) (by kernel_rfl) HFA.out ?_
        repeat (with_reducible refine wpQuiet_step (fun K hK => ?_); go_simp; (with_reducible refine hK _ ?_; clear hK K))
        with_reducible refine wpQuiet_nil ?_
        intro _ hw'
        obtain ⟨nq, rfl⟩ := hw'
        have H2 := Lib.hid (H.out.kept (HFF.out nq))
        clear e0 e2 e3 e4 e5 HFA hI
        generalize F1 nq = w2 at *
        have HF2 := Lib.hid (HF.out.trans (if_pos ⟨hk, hr2, hl⟩))
        have f18 := H2.out.f 18
        have c18 : w2.cell? ⟨b, 18, none⟩ = some (.bool s.synced) := H2.out.cell 18
        go_wp2_with fail
        have HS := Lib.hid (H2.out.set (r' := r) (s' := synN s true) 18 (.bool true) rfl H2.out.nd.np)
        generalize w2.setCell ⟨b, 18, none⟩ (.bool true) = w3 at *
        clear f18 c18 H2 t1 t2 t3
        obtain ⟨s3, hs3⟩ : ∃ s3, s3 = synN s true := ⟨_, rfl⟩
        have hks := hc.k
        have HP := Lib.hid (fun W => psnew_any i (rk + 1) (by omega) (by omega) W)
        have HK := Lib.hid (fun W => kpnew_any c.keep hc.k.1 hc.k.2 W)
        have HC := Lib.hid (Chg.drew (fun _ => False) w3)
        have c9 : w3.cell? ⟨b, 9, none⟩ = some (.int .i64 i) := HS.out.cell 9
        have c5 : w3.cell? ⟨b, 5, none⟩ = some (.int .i64 c.keep) := HS.out.cell 5
        have c19 : w3.cell? ⟨b, 19, none⟩ = some r.pv := HS.out.cell 19
        have c20 : w3.cell? ⟨b, 20, none⟩ = some r.kv := HS.out.cell 20
        have e1 : IntKind.i64.wrap (rk + 1) = rk + 1 := IntWalk.i64_in _ (by omega)
        have HSIX := Lib.hid (show ∀ W, Chg (fun _ => False) w3 W → W.cell? ⟨b, 9, none⟩ = some (.int .i64 i) ∧ W.cell? ⟨b, 5, none⟩ = some (.int .i64 c.keep) ∧ W.cell? ⟨b, 19, none⟩ = some r.pv ∧ W.cell? ⟨b, 20, none⟩ = some r.kv ∧ W.frozen? ⟨b, 19, none⟩ = false ∧ W.frozen? ⟨b, 20, none⟩ = false from
          fun W g => ⟨(HS.out.kept g).cell 9, (HS.out.kept g).cell 5, (HS.out.kept g).cell 19, (HS.out.kept g).cell 20, (HS.out.kept g).f 19, (HS.out.kept g).f 20⟩)
        go_cut [] (fun wx => (∃ o' r', NAt w1 o c i b (adopt0N s rk) wx o' r'))
        case first =>
          go_region_with (first
            | (go_at_call 156; refine (HP.out _).mono ?_; rintro en wp ⟨pb, rfl, hP, hlp, gp⟩
               have HC := Lib.hid (HC.out.trans gp)
               obtain ⟨c9, c5, c19, c20, f19, f20⟩ := HSIX.out _ HC.out)
            | (go_at_call 157; refine (HK.out _).mono ?_; rintro en wk ⟨kb, rfl, hK, hlk, gk⟩
               have HC := Lib.hid (HC.out.trans gk)
               obtain ⟨c9, c5, c19, c20, f19, f20⟩ := HSIX.out _ HC.out))
          all_goals
            go_wp2_with fail
            go_meet
            first
              | (have s1 : w3.heap.size ≤ pb := hlp
                 have s2 : w3.heap.size ≤ kb := Nat.le_trans (show w3.heap.size ≤ wp.heap.size from gp.size) hlk
                 obtain ⟨o', r', hN⟩ := HS.out.fresh2 wk HC.out pb kb (rk + 1) (by have := lt_of_block hP.blk; omega) s1 s2 (hP.kept gk) hK ⟨by omega, by omega⟩
                 exact ⟨o', r', hN _ (.inl rfl)⟩)
              | (have s1 : w3.heap.size ≤ kb := hlk
                 have s2 : w3.heap.size ≤ pb := Nat.le_trans (show w3.heap.size ≤ wk.heap.size from gk.size) hlp
                 obtain ⟨o', r', hN⟩ := HS.out.fresh2 wp HC.out pb kb (rk + 1) (by have := lt_of_block hK; omega) s2 s1 hP (hK.kept gp) ⟨by omega, by omega⟩
                 exact ⟨o', r', hN _ (.inl rfl)⟩)
        case rest => 
          obtain ⟨o4, r4, h4⟩ := hcut
          have H4 := Lib.hid h4
          have hpo := h4.nd.np.2.2.2.2.2.2.2.1
          obtain ⟨pb, row, e1, hP, hq1, hq2, hR0, hR1, hL, hS⟩ := (show Po wc o4 (cl i 6) r4.pv i (some (rk + 1, [])) from hpo)
          have c19 : wc.cell? ⟨b, 19, none⟩ = some r4.pv := h4.cell 19
          rw [e1] at c19
          have HH := Lib.hid (fun W (g : Chg (fun _ => False) wc W) => pshear_any W pb row i (rk + 1) [] f.src rk now (hP.kept g) hL hS hs hm hr ht ⟨hR0, hR1⟩)
          have HPS := Lib.hid (fun W (g : Chg (fun _ => False) wc W) w' v' g2 P hn => (h4.kept g).pset (w' := w') (v' := v') e1 hq1 hq2 g2 P hn (hearL_R (rk + 1) [] f.src rk now ⟨hR0, hR1⟩ hr.1) (hearL_len (rk + 1) [] f.src rk now hL) (hearL_srt (rk + 1) [] f.src rk now hS))
          obtain ⟨k0, k1, _⟩ := cell6 (HBK.out _ _ _ _ h4)
          clear h4 c9 c5 c19 c20 HP HK HC HSIX HS hpo hP hq1 hq2 hR0 hR1 hL hS
          have c19 : wc.cell? ⟨b, 19, none⟩ = some (.pointer (some ⟨pb, 0, none⟩)) := e1 ▸ H4.out.cell 19
          go_wp2_with fail
          go_still_tail 8, (by kernel_rfl)
          change wpList _ _ _ _ _ wc.drew
          go_wp2_with fail
          (with_reducible refine (HH.out _ (Chg.drew _ wc)).mono ?_)
          rintro en w5 ⟨t, v', rfl, hP2, hg2, hv2⟩
          obtain ⟨o5, h5⟩ := HPS.out _ (Chg.drew _ wc) w5 v' hg2 hP2 hv2
          have h5 : NAt w1 o c i b (adopt1N s f.src rk now) w5 o5 r4 := h5
          clear hP2 hg2 hv2 HPS HH H4 k0 k1 c19
          obtain ⟨k0, k1, _⟩ := cell6 (HBK.out _ _ _ _ h5)
          have HV := Lib.hid (nevent_any h5 1 f.src (by show s.ev.length ≤ 1000; omega))
          clear h5
          go_wp2_with fail
          (with_reducible refine HV.out.mono ?_)
          rintro en w6 ⟨v, o6, r6, rfl, h6, rfl⟩
          clear k0 k1 HV
          obtain ⟨k0, k1, _⟩ := cell6 (HBK.out _ _ _ _ h6)
          have HV := Lib.hid (nmoves_any h6 f.src ms (by show (s.ev ++ [_]).length ≤ 1000; simp; omega) hb (by show some (0 : Int) ≠ none; simp))
          clear h6
          go_wp2_with fail
          (with_reducible refine HV.out.mono ?_)
          rintro en w7 ⟨v, o7, r7, rfl, h7, rfl⟩
          clear k0 k1 HV
          obtain ⟨k0, k1, _⟩ := cell6 (HBK.out _ _ _ _ h7)
          have HV := Lib.hid (nevent_any h7 2 f.src (by show ((s.ev ++ [_]) ++ [_]).length ≤ 1000; simp; omega))
          clear h7
          go_wp2_with fail
          (with_reducible refine HV.out.mono ?_)
          rintro en w8 ⟨v, o8, r8, rfl, h8, rfl⟩
          clear k0 k1 HV
          obtain ⟨k0, k1, _⟩ := cell6 (HBK.out _ _ _ _ h8)
          have HV := Lib.hid (nevent_any h8 6 f.src (by show (((s.ev ++ [_]) ++ [_]) ++ [_]).length ≤ 1000; simp; omega))
          clear h8
          go_wp2_with fail
          (with_reducible refine HV.out.mono ?_)
          rintro en w9 ⟨v, o9, r9, rfl, h9, rfl⟩
          clear k0 k1 HV
          have H9 := Lib.hid h9
          clear h9
          go_wp2_with fail
          go_end0
          refine ⟨_, o9, r9, rfl, ?_, rfl⟩
          rw [HF2.out]
          exact HT.out.trans H9.out
      · have t3 : decide (s.listened ≤ c.loss) = true := by simp; omega
        with_reducible refine wp_region_cls F1 (by kernel_rfl) (by kernel_rfl) HFA.out ?_
        repeat (with_reducible refine wpQuiet_step (fun K hK => ?_); go_simp; (with_reducible refine hK _ ?_; clear hK K))
        with_reducible refine wpQuiet_nil ?_
        intro _ hw'
        obtain ⟨nq, rfl⟩ := hw'
        have H2 := Lib.hid (H.out.kept (HFF.out nq))
        clear e0 e2 e3 e4 e5 HFF HFA hI H
        generalize F1 nq = w2 at *
        go_wp2_with fail
        go_end0
        refine ⟨_, o, r, rfl, ?_, rfl⟩
        rw [HF.out, if_neg (by omega)]
        exact HT.out.trans H2.out
    · have t2 : decide (253 < rk) = true := by simp; omega
      with_reducible refine wp_region_cls F1 (by kernel_rfl) (by kernel_rfl) HFA.out ?_
      repeat (with_reducible refine wpQuiet_step (fun K hK => ?_); go_simp; (with_reducible refine hK _ ?_; clear hK K))
      with_reducible refine wpQuiet_nil ?_
      intro _ hw'
      obtain ⟨nq, rfl⟩ := hw'
      have H2 := Lib.hid (H.out.kept (HFF.out nq))
      clear e0 e2 e3 e4 e5 HFF HFA hI H
      generalize F1 nq = w2 at *
      go_wp2_with fail
      go_end0
      refine ⟨_, o, r, rfl, ?_, rfl⟩
      rw [HF.out, if_neg (by omega)]
      exact HT.out.trans H2.out
  · have t1 : (f.kind != 3) = true := by simp [hk]
    with_reducible refine wp_region_cls F1 (by kernel_rfl) (by kernel_rfl) HFA.out ?_
    repeat (with_reducible refine wpQuiet_step (fun K hK => ?_); go_simp; (with_reducible refine hK _ ?_; clear hK K))
    with_reducible refine wpQuiet_nil ?_
    intro _ hw'
    obtain ⟨nq, rfl⟩ := hw'
    have H2 := Lib.hid (H.out.kept (HFF.out nq))
    clear e0 e2 e3 e4 e5 HFF HFA hI H
    generalize F1 nq = w2 at *
    go_wp2_with fail
    go_end0
    refine ⟨_, o, r, rfl, ?_, rfl⟩
    rw [HF.out, if_neg (by omega)]
    exact HT.out.trans H2.out
end
end Go.Proofs.YtnpihllannobgaaGreatDoor
namespace Go.Proofs.YtnpihllannobgaaGreatDoor
set_option linter.unusedVariables false
set_option linter.unusedSimpArgs false
open Go.ChangeShapes Go.WideShapes Go.ChangeAt Go.RowKit

section
variable {w0 w w' : World} {o0 o o' : Cls} {c : Cfg} {i b : Nat} {s s' : NSt} {r r' : NR}
set_option maxRecDepth 100000 in
theorem nback_none (h : NAt w0 o0 c i b s w o r) (f : Fr) (iA : Option Addr) (il ic : Nat) (dA : Option Addr) (dl dc : Nat) (now ms : Int) (hno : f.dst ≠ i ∨ (f.kind ≠ 1 ∧ f.kind ≠ 4)) :
    Calls Tryz.prog 108 #[.pointer (some ⟨b, 0, none⟩), frV f (.slice iA il ic) (.slice dA dl dc), .int .i64 now, .int .i64 ms] w (PV (.slice none 0 0) w) := by
  unfold frV
  have hba := block_alloc w (.cells #[.int .i64 f.kind, .int .i64 f.src, .int .i64 f.dst, .int .i64 f.seq, .slice iA il ic, .slice dA dl dc] 71)
  have ga := Chg.alloc (fun _ => False) w (.cells #[.int .i64 f.kind, .int .i64 f.src, .int .i64 f.dst, .int .i64 f.seq, .slice iA il ic, .slice dA dl dc] 71)
  have HB := Lib.hid hba
  have H := Lib.hid (h.kept ga)
  have HG := Lib.hid ga
  clear h hba ga
  go_enter Tryz.func108, Tryz.ntmps108
  go_wp2_with fail
  generalize hW : w.alloc (.cells #[.int .i64 f.kind, .int .i64 f.src, .int .i64 f.dst, .int .i64 f.seq, .slice iA il ic, .slice dA dl dc] 71) = w1 at *
  obtain ⟨d0, d1, d2, d3, d4, d5⟩ := cell6 HB.out
  have c1 : w1.cell? ⟨b, 9, none⟩ = some (.int .i64 i) := H.out.cell 9
  obtain ⟨I, F1, hI, hF1, hFA⟩ := clsF w1
  have e0 := cellF hF1 d0
  have e2 := cellF hF1 d2
  have e3 := cellF hF1 c1
  have HFF := Lib.hid hF1
  have HFA := Lib.hid (hFA _ (Chg.drew _ _))
  clear hF1 hFA d0 d1 d2 d3 d4 d5 c1
  by_cases hd : f.dst = i
  · rcases hno with hno | ⟨h1, h4⟩
    · exact absurd hd hno
    have t1 : (f.dst != (i : Int)) = false := by simp [hd]
    have t2 : (f.kind != 1) = true := by simp [h1]
    have t3 : (f.kind != 4) = true := by simp [h4]
    with_reducible refine wp_region_cls F1 (by kernel_rfl) (by kernel_rfl) HFA.out ?_
    repeat ((with_reducible refine wpQuiet_step (fun K hK => ?_)); go_simp; (try (rw [if_neg]; rotate_left; (intro h; cases h))); (with_reducible refine hK _ ?_); clear hK K)
    with_reducible refine wpQuiet_nil ?_
    intro _ hw'
    obtain ⟨nq, rfl⟩ := hw'
    have H2 := Lib.hid (HG.out.trans (HFF.out nq))
    clear e0 e2 e3 HFF HFA hI H
    generalize F1 nq = w2 at *
    go_wp2_with fail
    go_ret
    exact ⟨rfl, H2.out⟩
  · have t1 : (f.dst != (i : Int)) = true := by simp [hd]
    with_reducible refine wp_region_cls F1 (by kernel_rfl) (by kernel_rfl) HFA.out ?_
    repeat ((with_reducible refine wpQuiet_step (fun K hK => ?_)); go_simp; (try (rw [if_neg]; rotate_left; (intro h; cases h))); (with_reducible refine hK _ ?_); clear hK K)
    with_reducible refine wpQuiet_nil ?_
    intro _ hw'
    obtain ⟨nq, rfl⟩ := hw'
    have H2 := Lib.hid (HG.out.trans (HFF.out nq))
    clear e0 e2 e3 HFF HFA hI H
    generalize F1 nq = w2 at *
    go_wp2_with fail
    go_ret
    exact ⟨rfl, H2.out⟩
end
end Go.Proofs.YtnpihllannobgaaGreatDoor
namespace Go.Proofs.YtnpihllannobgaaGreatDoor
set_option linter.unusedVariables false
set_option linter.unusedSimpArgs false
open Go.ChangeShapes Go.WideShapes Go.ChangeAt Go.RowKit

theorem decF_cases (L : List Int) : ((decF L).1 = 0 ∧ mayF (decF L).2 = true) ∨ ((decF L).1 ≠ 0 ∧ (decF L).2 = fr0) := by
  unfold decF
  by_cases h1 : L.length < 9
  · right; simp [h1]
  · rw [if_neg h1]
    by_cases h2 : (!crcGood L) = true
    · right; simp [h2]
    · rw [if_neg h2]
      generalize readF ⟨L.take (L.length - 2), 0⟩ = x
      obtain ⟨first, f, els, s⟩ := x
      simp only []
      by_cases h3 : first ≠ 197 ∨ rEnd s ≠ 0
      · right; rw [if_pos h3]; simp
      · rw [if_neg h3]
        generalize decI els = y
        obtain ⟨e, ies⟩ := y
        simp only []
        by_cases h4 : e ≠ 0
        · right; rw [if_pos h4]; exact ⟨h4, rfl⟩
        · rw [if_neg h4]
          by_cases h5 : mayF { f with ies := ies } = true
          · left; rw [if_pos h5]; exact ⟨rfl, h5⟩
          · right; rw [if_neg h5]; simp
theorem mayF_ies {f : Fr} (h : mayF f = true) : f.ies.length ≤ 100000 ∧ ∀ e ∈ f.ies, e.list.length ≤ 100000 := by
  obtain ⟨h1, h2, _⟩ := mayF_of h
  refine ⟨by omega, fun e he => ?_⟩
  have h3 := h2 e he
  unfold mayE at h3
  simp only [Bool.and_eq_true, decide_eq_true_eq] at h3
  obtain ⟨h4, h5, h6⟩ := h3
  unfold insideE at h5
  unfold plainE at h6
  by_cases k1 : e.kind = 1
  · rw [if_pos k1] at h6; rw [h6]; simp
  · rw [if_neg k1] at h5 h6
    by_cases k2 : e.kind = 2
    · rw [if_pos k2] at h6; rw [h6]; simp
    · rw [if_neg k2] at h5
      simp only [Bool.and_eq_true, decide_eq_true_eq] at h5
      omega
theorem rankF_bd {f : Fr} (h : mayF f = true) (now : Int) : 0 ≤ (rankF f now).1 ∧ (rankF f now).1 ≤ 255 := by
  obtain ⟨h1, h2, _⟩ := mayF_of h
  unfold rankF
  cases hf : findE f.ies 1 with
  | none => simp
  | some e =>
    have h3 := h2 e (List.mem_of_find?_eq_some hf)
    have hk := List.find?_some hf
    simp only [beq_iff_eq] at hk
    unfold mayE at h3
    simp only [Bool.and_eq_true, decide_eq_true_eq] at h3
    obtain ⟨h4, h5, h6⟩ := h3
    unfold insideE at h5
    rw [if_pos hk] at h5
    simp only [Bool.and_eq_true, inR, decide_eq_true_eq] at h5
    exact h5.2
/-- frames that are listened to. -/
def goodF (i : Nat) (c : Cfg) (x : Int × Fr) : Bool := x.1 == 0 && (inR x.2.src 0 ((c.nodes : Int) - 1) && !(x.2.src == (i : Int)))
def hear2N (i : Nat) (s : NSt) (f : Fr) (rk now ms : Int) (B : NSt → NSt) : NSt :=
  if i = 0 then B (evN s ⟨1, i, f.src, 0, pk0⟩) else
  if firstN (hearsN i (evN s ⟨1, i, f.src, 0, pk0⟩) f.src rk now ms) = 64 then hearsN i (evN s ⟨1, i, f.src, 0, pk0⟩) f.src rk now ms else B (hearsN i (evN s ⟨1, i, f.src, 0, pk0⟩) f.src rk now ms)
def hearN (i : Nat) (c : Cfg) (s : NSt) (x : Int × Fr) (now ms : Int) (B : NSt → NSt) : NSt :=
  if goodF i c x && (rankF x.2 now).2 then (if s.synced then hear2N i s x.2 (rankF x.2 now).1 now ms B else adoptN i c s x.2 (rankF x.2 now).1 now ms) else s
end Go.Proofs.YtnpihllannobgaaGreatDoor
