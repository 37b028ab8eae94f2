/- A node hears. Synced, Parents of a node. What a node does with answers. A node ends a slot. What nodes send and the world does, as functions on what nodes know. No condition. -/
import Derived.Test.YtnpihllannobgaaGreatDoorG17
namespace Go.Proofs.YtnpihllannobgaaGreatDoor
set_option linter.unusedVariables false
set_option linter.unusedSimpArgs false
open Go.ChangeShapes Go.WideShapes Go.ChangeAt Go.RowKit

def AV (a : Option (List Int)) (v : Value) (w : World) (o : Cls) : Prop := match a with | none => v = .slice none 0 0 | some l => BO w o v l
def ansN (i : Nat) (c : Cfg) (s : NSt) (x : Int × Fr) (now ms : Int) (A : NSt → Option (List Int)) : Option (List Int) :=
  if goodF i c x && (rankF x.2 now).2 && s.synced then
    (if i = 0 then A (evN s ⟨1, i, x.2.src, 0, pk0⟩) else
     if firstN (hearsN i (evN s ⟨1, i, x.2.src, 0, pk0⟩) x.2.src (rankF x.2 now).1 now ms) = 64 then none else A (hearsN i (evN s ⟨1, i, x.2.src, 0, pk0⟩) x.2.src (rankF x.2 now).1 now ms))
  else none
def PHearN (w0 : World) (o0 : Cls) (c : Cfg) (i b : Nat) (s : NSt) (a : Option (List Int)) : Ending → World → Prop :=
  PN w0 o0 c i b (noEv s) (fun v w' o' => ∃ bv ev, v = .tuple #[bv, ev] ∧ AV a bv w' o' ∧ Eo w' o' (cl i 9) ev s.ev)
theorem Eo.nil (w : World) (own : Cls) (c : Nat) : Eo w own c (.slice none 0 0) [] := ⟨[], World.ownsRow_nil _ _ _ _, fun k hk => by (cases hk), fun p hp => by (cases hp), rfl⟩
section
variable {w0 w w' : World} {o0 o o' : Cls} {c : Cfg} {i b : Nat} {s s' : NSt} {r r' : NR}
theorem NAt.avoid (h : NAt w0 o0 c i b s w o r) (z : Z w0 o0) : ∀ j, o j = 0 → ¬ NdS o0 i j := fun j hj hn => by
  obtain ⟨k, _, hn⟩ := hn
  rcases Nat.lt_or_ge j w0.heap.size with hlt | hge
  · rw [h.ext j hlt] at hj; rw [hj] at hn; exact cl_ne0 i k hn.symm
  · rw [z j hge] at hn; exact cl_ne0 i k hn.symm
theorem NAt.io (h : NAt w0 o0 c i b s w o r) (z : Z w0 o0) {v : Value} {l : List El} (k : IeO w0 o0 v l) : IeO w o v l := (k.ext h.ext).keep h.chg (h.avoid z)
theorem NAt.bo (h : NAt w0 o0 c i b s w o r) (z : Z w0 o0) {v : Value} {l : List Int} (k : BO w0 o0 v l) : BO w o v l := (k.ext h.ext).keep h.chg (h.avoid z)
theorem AV.told {a : Option (List Int)} {v : Value} (h : NAt w0 o0 c i b s w o r) (z : Z w0 o0) (k : AV a v w0 o0) : AV a v w o := by
  cases a with
  | none => exact k
  | some l => exact h.bo z k
theorem hearsN_ev (i : Nat) (s : NSt) (src rank now ticks : Int) : (hearsN i s src rank now ticks).ev.length ≤ s.ev.length + 2 := by
  unfold hearsN
  have h := hears1_ev i (heardN s src rank now) src ticks
  have h0 : (heardN s src rank now).ev = s.ev := rfl
  rw [h0] at h
  unfold followsN
  split
  · omega
  · show ((hears1N i (heardN s src rank now) src ticks).ev ++ [_]).length ≤ _
    simp; omega
theorem noEv_same (h : s.ev = []) : noEv s = s := by cases s; simp only at h; subst h; rfl
set_option maxRecDepth 100000 in
set_option maxHeartbeats 16000000 in
theorem nhear_any (hc : CfgOk c) (h : NAt w0 o0 c i b s w o r) (hi : i < c.nodes) (v : Value) (L : List Int) (hv : BS w w.heap.size v L) (hL : L.length ≤ 100000) (now ms : Int) (h0 : 0 ≤ now) (h1 : now < 1099511627776) (hev : s.ev = []) (hms : -30000 < ms ∧ ms < 30000)
    (hb : -1000000000000000 ≤ s.base ∧ s.base ≤ 1000000000000000) (hp : s.synced = true → i ≠ 0 → s.p ≠ none ∧ s.k ≠ none) (B : NSt → NSt) (A : NSt → Option (List Int)) (X : Int × Fr) (hX : X = decF L)
    (HB : ∀ (W0 : World) (O0 : Cls) (s2 : NSt) (W : World) (o' : Cls) (r' : NR) iA il ic dA dl dc, NAt W0 O0 c i b s2 W o' r' → s2.ev.length ≤ 900 → IeO W o' (.slice iA il ic) X.2.ies → BO W o' (.slice dA dl dc) X.2.data →
      Calls Tryz.prog 108 #[.pointer (some ⟨b, 0, none⟩), frV X.2 (.slice iA il ic) (.slice dA dl dc), .int .i64 now, .int .i64 ms] W (PN W0 O0 c i b (B s2) (fun v W' o'' => AV (A s2) v W' o''))) :
    Calls Tryz.prog 63 #[.pointer (some ⟨b, 0, none⟩), .int .i64 now, v, .int .i64 ms] w (PHearN w0 o0 c i b (hearN i c s X now ms B) (ansN i c s X now ms A)) := by
  have HD := Lib.hid (fdecode_any w v L hv hL)
  rw [← hX] at HD
  have HA := Lib.hid (fun w => nasn_any now h0 h1 w)
  have hcs : (X.1 = 0 ∧ mayF X.2 = true) ∨ (X.1 ≠ 0 ∧ X.2 = fr0) := by rw [hX]; exact decF_cases L
  obtain ⟨F, hF⟩ : ∃ F, F = hearN i c s X now ms B := ⟨_, rfl⟩
  obtain ⟨a, ha⟩ : ∃ a, a = ansN i c s X now ms A := ⟨_, rfl⟩
  rw [← hF, ← ha]
  have HF := Lib.hid (And.intro hF ha)
  have H := Lib.hid h
  have HLB := Lib.hid (lt_of_block h.nd.blk)
  obtain ⟨vA, vc, rfl, _⟩ := hv
  obtain ⟨vn, hvn⟩ : ∃ n, n = L.length := ⟨_, rfl⟩
  rw [← hvn] at HD ⊢
  have HBB := Lib.hid HB
  clear h hF ha hX HB hvn hL
  go_enter Tryz.func63, Tryz.ntmps63
  go_wp2_with fail
  (with_reducible refine (HA.out _).mono ?_)
  rintro en w1 ⟨rfl, rfl⟩
  go_wp2_with fail
  (with_reducible refine HD.out.mono ?_)
  rintro en w2 ⟨iv, dv, rfl, hI, hD, hG⟩
  have H2 := Lib.hid (H.out.kept hG)
  have HI2 := Lib.hid (hI o H.out.z)
  have HD2 := Lib.hid (hD o H.out.z)
  obtain ⟨iA, ic, hiv⟩ := HI2.out.val
  obtain ⟨⟨dA, dc, hdv, _⟩, _⟩ := HD2.out
  clear hI hD hG H HD
  obtain ⟨e, f⟩ := X
  dsimp only at hiv hdv HI2 HD2 hcs HBB HF ⊢
  obtain ⟨il, hil⟩ : ∃ n, n = f.ies.length := ⟨_, rfl⟩
  obtain ⟨dl, hdl⟩ : ∃ n, n = f.data.length := ⟨_, rfl⟩
  rw [← hil] at hiv
  rw [← hdl] at hdv
  subst hiv hdv
  clear hil hdl
  have ga := Chg.alloc (fun _ => False) w2 (.cells #[.int .i64 f.kind, .int .i64 f.src, .int .i64 f.dst, .int .i64 f.seq, .slice iA il ic, .slice dA dl dc] 71)
  have HB3 := Lib.hid (block_alloc w2 (.cells #[.int .i64 f.kind, .int .i64 f.src, .int .i64 f.dst, .int .i64 f.seq, .slice iA il ic, .slice dA dl dc] 71))
  have HT := Lib.hid (H2.out.kept ga)
  have HI3 := Lib.hid (HI2.out.keep ga (fun _ _ e => e))
  have HD3 := Lib.hid (HD2.out.keep ga (fun _ _ e => e))
  have HZ0 := Lib.hid (H2.out.z _ (Nat.le_refl _))
  clear ga HI2 HD2 H2
  unfold frV
  go_wp2_with fail
  generalize hW : w2.alloc (.cells #[.int .i64 f.kind, .int .i64 f.src, .int .i64 f.dst, .int .i64 f.seq, .slice iA il ic, .slice dA dl dc] 71) = w3 at *
  have HBK := Lib.hid (show ∀ W s' o' r', NAt w3 o c i b s' W o' r' → W.heap[w2.heap.size]? = some (.cells #[.int .i64 f.kind, .int .i64 f.src, .int .i64 f.dst, .int .i64 f.seq, .slice iA il ic, .slice dA dl dc] 71 (0, 0)) from
    fun W s' o' r' hN => Chg.keep hN.chg HB3.out (fun e => by obtain ⟨j, _, e⟩ := e; rw [HZ0.out] at e; exact cl_ne0 i j e.symm))
  have H3 := Lib.hid (NAt.start HT.out.nd HT.out.z)
  obtain ⟨d0, d1, d2, d3, d4, d5⟩ := cell6 HB3.out
  have c1 : w3.cell? ⟨b, 9, none⟩ = some (.int .i64 i) := H3.out.cell 9
  obtain ⟨I, F1, hI, hF1, hFA⟩ := clsF w3
  have e1 := cellF hF1 d1
  have e2 := cellF hF1 c1
  obtain ⟨M, hM⟩ : ∃ M, M = inR f.src 0 ((c.nodes : Int) - 1) := ⟨_, rfl⟩
  have HC1 := Lib.hid (show ∀ n, Calls Tryz.prog 78 #[.pointer (some ⟨b, 0, none⟩), .int .i64 f.src] (F1 n) (fun e w' => e = .returned (.bool M) ∧ ∃ m, w' = F1 m) from
    fun n => (nhas_any (H3.out.kept (hF1 n)) f.src hc.n1).mono (fun e w' ⟨h1, h2⟩ => ⟨by rw [hM]; exact h1, n, h2⟩))
  have HFF := Lib.hid hF1
  have HFA := Lib.hid (hFA _ (Chg.drew _ _))
  have HBAD := Lib.hid (show goodF i c (e, f) = false → F = s ∧ a = none from fun hg => ⟨by rw [HF.out.1]; unfold hearN; rw [hg]; rfl, by rw [HF.out.2]; unfold ansN; rw [hg]; rfl⟩)
  have HM := Lib.hid hM
  clear hF1 hFA d0 d1 d2 d3 d4 d5 c1 hW hM
  with_reducible refine wp_region_cls F1 (by kernel_rfl) (by kernel_rfl) HFA.out ?_
  by_cases he : e = 0
  · have t1 : (e != 0) = false := by simp [he]
    have hmay : mayF f = true := by
      rcases hcs with h | h
      · exact h.2
      · exact absurd he h.1
    have HMAY := Lib.hid hmay
    clear hcs hmay
    cases hMM : M with
    | false =>
      rw [hMM] at HC1
      repeat ((with_reducible refine wpQuiet_step (fun K hK => ?_)); go_simp; (try (rw [if_neg]; rotate_left; (intro h; cases h))); first | ((with_reducible refine hK _ ?_); clear hK K) | (apply Exists.intro; (with_reducible refine ⟨fun _ => ?_, hK _ ?_⟩); (exact HC1.out _); clear hK K))
      with_reducible refine wpQuiet_nil ?_
      intro _ hw'
      obtain ⟨nq, rfl⟩ := hw'
      obtain ⟨hf1, ha1⟩ := HBAD.out (by unfold goodF; rw [← HM.out, hMM]; simp)
      have H4 := Lib.hid (H3.out.kept (HFF.out nq))
      clear e1 e2 HFF HFA hI HC1 H3
      generalize F1 nq = w4 at *
      subst hf1 ha1
      go_wp2_with fail
      go_ret2
      refine ⟨_, o, r, rfl, ?_, _, _, rfl, rfl, ?_⟩
      · rw [noEv_same hev]; exact HT.out.trans H4.out
      · rw [hev]; exact Eo.nil _ _ _
    | true =>
      rw [hMM] at HC1
      have HM2 := Lib.hid (hMM.symm.trans HM.out)
      clear hMM HM
      by_cases hsi : f.src = i
      · have t2 : (f.src == (i : Int)) = true := by simp [hsi]
        have HSI := Lib.hid hsi
        clear hsi
        repeat ((with_reducible refine wpQuiet_step (fun K hK => ?_)); go_simp; (try (rw [if_neg]; rotate_left; (intro h; cases h))); first | ((with_reducible refine hK _ ?_); clear hK K) | (apply Exists.intro; (with_reducible refine ⟨fun _ => ?_, hK _ ?_⟩); (exact HC1.out _); clear hK K))
        with_reducible refine wpQuiet_nil ?_
        intro _ hw'
        obtain ⟨nq, rfl⟩ := hw'
        obtain ⟨hf1, ha1⟩ := HBAD.out (by unfold goodF; simp [HSI.out])
        have H4 := Lib.hid (H3.out.kept (HFF.out nq))
        clear e1 e2 HFF HFA hI HC1 H3
        generalize F1 nq = w4 at *
        subst hf1 ha1
        go_wp2_with fail
        go_ret2
        refine ⟨_, o, r, rfl, ?_, _, _, rfl, rfl, ?_⟩
        · rw [noEv_same hev]; exact HT.out.trans H4.out
        · rw [hev]; exact Eo.nil _ _ _
      · have t2 : (f.src == (i : Int)) = false := by simp [hsi]
        have hg : goodF i c (e, f) = true := by unfold goodF; simp only []; rw [← HM2.out, t2, he]; rfl
        have HGD := Lib.hid hg
        repeat ((with_reducible refine wpQuiet_step (fun K hK => ?_)); go_simp; (try (rw [if_neg]; rotate_left; (intro h; cases h))); first | ((with_reducible refine hK _ ?_); clear hK K) | (apply Exists.intro; (with_reducible refine ⟨fun _ => ?_, hK _ ?_⟩); (exact HC1.out _); clear hK K))
        with_reducible refine wpQuiet_nil ?_
        intro _ hw'
        obtain ⟨nq, rfl⟩ := hw'
        have H4 := Lib.hid (H3.out.kept (HFF.out nq))
        have HI4 := Lib.hid (HI3.out.keep (HFF.out nq) (fun _ _ e => e))
        have HD4 := Lib.hid (HD3.out.keep (HFF.out nq) (fun _ _ e => e))
        clear e1 e2 HFF HFA hI HC1 H3 HBAD hg t1
        generalize F1 nq = w4 at *
        obtain ⟨d0, d1, d2, d3, d4, d5⟩ := cell6 (HBK.out _ _ _ _ H4.out)
        obtain ⟨hm1, hm2⟩ := mayF_ies HMAY.out
        have hR := nrankf_any w4 o f (.slice iA il ic) dA dl dc now HI4.out hm1 hm2
        have hrb := rankF_bd HMAY.out now
        obtain ⟨⟨rk, ok⟩, hRK⟩ : ∃ x, x = rankF f now := ⟨_, rfl⟩
        rw [← hRK] at hR hrb
        dsimp only at hR hrb
        unfold frV at hR
        have HR := Lib.hid hR
        have HRK := Lib.hid hRK
        clear hR hRK hm1 hm2
        go_wp2_with fail
        (with_reducible refine HR.out.mono ?_)
        rintro en w5 ⟨rfl, g5⟩
        have H5 := Lib.hid (H4.out.kept g5)
        have HI5 := Lib.hid (HI4.out.keep g5 (fun _ _ e => e))
        have HD5 := Lib.hid (HD4.out.keep g5 (fun _ _ e => e))
        clear g5 HR H4 HI4 HD4 d0 d1 d2 d3 d4 d5
        cases ok with
        | false =>
          have hf1 : F = s := by rw [HF.out.1]; unfold hearN; simp only []; rw [← HRK.out]; simp
          have ha1 : a = none := by rw [HF.out.2]; unfold ansN; simp only []; rw [← HRK.out]; simp
          go_wp2_with fail
          go_ret2
          refine ⟨_, o, r, rfl, ?_, _, _, rfl, ?_, ?_⟩
          · rw [hf1, noEv_same hev]; exact HT.out.trans H5.out
          · rw [ha1]; rfl
          · rw [hf1, hev]; exact Eo.nil _ _ _
        | true =>
          have c18 : w5.cell? ⟨b, 18, none⟩ = some (.bool s.synced) := H5.out.cell 18
          obtain ⟨m0, m1⟩ := hms
          obtain ⟨d0, d1, d2, d3, d4, d5⟩ := cell6 (HBK.out _ _ _ _ H5.out)
          have hrr := hrb
          have hsb : 0 ≤ f.src ∧ f.src ≤ 15 := by
            obtain ⟨_, _, _, q1, q2, _⟩ := mayF_of HMAY.out
            omega
          have HRX := Lib.hid (show rankF f now = (rk, true) from HRK.out.symm)
          cases hsy : s.synced with
          | false =>
            rw [hsy] at c18
            have HAD := Lib.hid (nadopt_any hc H5.out (by have := hc.n1; omega) f iA il ic dA dl dc rk now ms (by rw [hev]; simp) hb hsb (by simpa using hsi) hrr h0)
            unfold frV at HAD
            go_wp2_with fail
            (with_reducible refine HAD.out.mono ?_)
            rintro en w6 ⟨v6, o6, r6, rfl, h6, rfl⟩
            have hf1 : F = adoptN i c s f rk now ms := by rw [HF.out.1]; unfold hearN; simp only []; rw [HRX.out, HGD.out, hsy]; rfl
            have ha1 : a = none := by rw [HF.out.2]; unfold ansN; simp only []; rw [hsy]; simp
            rw [← hf1] at h6
            have HTL := Lib.hid (ntells_any h6)
            have HFA1 := Lib.hid ha1
            clear h6 HAD hf1 ha1 d0 d1 d2 d3 d4 d5
            go_wp2_with fail
            (with_reducible refine HTL.out.mono ?_)
            rintro en w7 ⟨v7, o7, r7, rfl, h7, hE7⟩
            have H7 := Lib.hid (And.intro h7 hE7)
            clear h7 hE7 HTL
            go_wp2_with fail
            go_ret2
            refine ⟨_, o7, r7, rfl, HT.out.trans H7.out.1, _, _, rfl, ?_, H7.out.2⟩
            rw [HFA1.out]; rfl
          | true =>
            rw [hsy] at c18
            have HEV := Lib.hid (nevent_any H5.out 1 f.src (by rw [hev]; simp))
            have HP := Lib.hid (hp hsy)
            have HSY := Lib.hid hsy
            clear hp hsy
            go_wp2_with fail
            (with_reducible refine HEV.out.mono ?_)
            rintro en w6 ⟨v6, o6, r6, rfl, h6, rfl⟩
            clear d0 d1 d2 d3 d4 d5 HEV c18
            obtain ⟨d0, d1, d2, d3, d4, d5⟩ := cell6 (HBK.out _ _ _ _ h6)
            have c9 : w6.cell? ⟨b, 9, none⟩ = some (.int .i64 i) := h6.cell 9
            have hl6 : (evN s ⟨1, i, f.src, 0, pk0⟩).ev.length ≤ 1 := by show (s.ev ++ [_]).length ≤ 1; rw [hev]; simp
            have HH := Lib.hid (fun (q : i ≠ 0) => nhears_any h6 f.src rk now ms (by omega) hb (HP.out q).2 (HP.out q).1 hsb (by simpa using hsi) hrr h0)
            have HIX := Lib.hid (And.intro (h6.io HT.out.z HI3.out) (h6.bo HT.out.z HD3.out))
            have HB6 := Lib.hid (HBB.out w3 o _ w6 o6 r6 iA il ic dA dl dc h6 (by omega) HIX.out.1 HIX.out.2)
            unfold frV at HB6
            obtain ⟨s1, hs1⟩ : ∃ s1, s1 = evN s ⟨1, i, f.src, 0, pk0⟩ := ⟨_, rfl⟩
            have H6 := Lib.hid h6
            rw [← hs1] at H6 HB6 HH
            have hF1 : F = hear2N i s f rk now ms B := by rw [HF.out.1]; unfold hearN; simp only []; rw [HRX.out, HGD.out, HSY.out]; rfl
            have hA1 : a = (if i = 0 then A s1 else if firstN (hearsN i s1 f.src rk now ms) = 64 then none else A (hearsN i s1 f.src rk now ms)) := by rw [HF.out.2, hs1]; unfold ansN; simp only []; rw [HRX.out, HGD.out, HSY.out]; simp
            unfold hear2N at hF1
            rw [← hs1] at hF1
            have HFA1 := Lib.hid (And.intro hF1 hA1)
            have HLN2 := Lib.hid (show ∀ s2, s2 = hearsN i s1 f.src rk now ms → s2.ev.length ≤ 900 from fun s2 e => by
              have := hearsN_ev i s1 f.src rk now ms
              rw [e]
              have h1 : s1.ev.length ≤ 1 := by rw [hs1]; exact hl6
              omega)
            clear h6 hF1 hA1 hs1 hl6 HIX H5 HI5 HD5
            by_cases hi0 : i = 0
            · have HI0 := Lib.hid hi0
              have i0 : ((i : Int) != 0) = false := by simp [hi0]
              clear hi0
              go_wp2_with fail
              (with_reducible refine HB6.out.mono ?_)
              rintro en w7 ⟨v7, o7, r7, rfl, h7, hA7⟩
              have HTL := Lib.hid (ntells_any (NAt.start h7.nd h7.z))
              have H7 := Lib.hid (And.intro h7 hA7)
              clear d0 d1 d2 d3 d4 d5 c9 HB6 H6 h7 hA7 HH
              go_wp2_with fail
              (with_reducible refine HTL.out.mono ?_)
              rintro en w8 ⟨v8, o8, r8, rfl, h8, hE8⟩
              have H8 := Lib.hid (And.intro h8 hE8)
              clear h8 hE8 HTL
              go_wp2_with fail
              go_ret2
              have e1 : F = B s1 := by rw [HFA1.out.1, if_pos HI0.out]
              have e2 : a = A s1 := by rw [HFA1.out.2, if_pos HI0.out]
              rw [e1, e2]
              exact ⟨_, o8, r8, rfl, HT.out.trans (H7.out.1.trans H8.out.1), _, _, rfl, AV.told H8.out.1 H7.out.1.z H7.out.2, H8.out.2⟩
            · have HI0 := Lib.hid hi0
              have i0 : ((i : Int) != 0) = true := by simp [hi0]
              have HH2 := Lib.hid (HH.out hi0)
              clear hi0 HB6 HH
              go_wp2_with fail
              (with_reducible refine HH2.out.mono ?_)
              rintro en w7 ⟨v7, o7, r7, rfl, h7, rfl⟩
              obtain ⟨s2, hs2⟩ : ∃ s2, s2 = hearsN i s1 f.src rk now ms := ⟨_, rfl⟩
              rw [← hs2] at h7 HFA1
              have HF7 := Lib.hid (nfirst_any h7)
              have H7 := Lib.hid h7
              have hl7 : s2.ev.length ≤ 900 := HLN2.out s2 hs2
              have HL7 := Lib.hid hl7
              obtain ⟨t, ht⟩ : ∃ t, t = firstN s2 := ⟨_, rfl⟩
              rw [← ht] at HF7 HFA1
              clear d0 d1 d2 d3 d4 d5 c9 H6 h7 hs2 ht HH2 hl7
              by_cases h64 : t = 64
              · have HT64 := Lib.hid h64
                have t64 : (t == 64) = true := by simp [h64]
                clear h64
                go_wp2_with fail
                (with_reducible refine HF7.out.mono ?_)
                rintro en w8 ⟨rfl, g8⟩
                have HTL := Lib.hid (ntells_any (H7.out.kept g8))
                clear g8 HF7
                go_wp2_with fail
                (with_reducible refine HTL.out.mono ?_)
                rintro en w9 ⟨v9, o9, r9, rfl, h9, hE9⟩
                have H9 := Lib.hid (And.intro h9 hE9)
                clear h9 hE9 HTL
                go_wp2_with fail
                go_ret2
                have e1 : F = s2 := by rw [HFA1.out.1, if_neg HI0.out, if_pos HT64.out]
                have e2 : a = none := by rw [HFA1.out.2, if_neg HI0.out, if_pos HT64.out]
                rw [e1, e2]
                exact ⟨_, o9, r9, rfl, HT.out.trans H9.out.1, _, _, rfl, rfl, H9.out.2⟩
              · have HT64 := Lib.hid h64
                have t64 : (t == 64) = false := by simp [h64]
                clear h64
                go_wp2_with fail
                (with_reducible refine HF7.out.mono ?_)
                rintro en w8 ⟨rfl, g8⟩
                have h8 := H7.out.kept g8
                have HIX := Lib.hid (And.intro (h8.io HT.out.z HI3.out) (h8.bo HT.out.z HD3.out))
                have HB8 := Lib.hid (HBB.out w3 o _ w8 o7 r7 iA il ic dA dl dc h8 HL7.out HIX.out.1 HIX.out.2)
                unfold frV at HB8
                obtain ⟨d0, d1, d2, d3, d4, d5⟩ := cell6 (HBK.out _ _ _ _ h8)
                clear h8 g8 HF7 HIX
                go_wp2_with fail
                (with_reducible refine HB8.out.mono ?_)
                rintro en w9 ⟨v9, o9, r9, rfl, h9, hA9⟩
                have HTL := Lib.hid (ntells_any (NAt.start h9.nd h9.z))
                have H9 := Lib.hid (And.intro h9 hA9)
                clear d0 d1 d2 d3 d4 d5 HB8 h9 hA9
                go_wp2_with fail
                (with_reducible refine HTL.out.mono ?_)
                rintro en wa ⟨va, oa, ra, rfl, ha, hEa⟩
                have HA2 := Lib.hid (And.intro ha hEa)
                clear ha hEa HTL
                go_wp2_with fail
                go_ret2
                have e1 : F = B s2 := by rw [HFA1.out.1, if_neg HI0.out, if_neg HT64.out]
                have e2 : a = A s2 := by rw [HFA1.out.2, if_neg HI0.out, if_neg HT64.out]
                rw [e1, e2]
                exact ⟨_, oa, ra, rfl, HT.out.trans (H9.out.1.trans HA2.out.1), _, _, rfl, AV.told HA2.out.1 H9.out.1.z H9.out.2, HA2.out.2⟩
  · have t1 : (e != 0) = true := by simp [he]
    have t2 : (e == 0) = false := by simp [he]
    have t3 := t2
    repeat ((with_reducible refine wpQuiet_step (fun K hK => ?_)); go_simp; (try (rw [if_neg]; rotate_left; (intro h; cases h))); first | ((with_reducible refine hK _ ?_); clear hK K) | (apply Exists.intro; (with_reducible refine ⟨fun _ => ?_, hK _ ?_⟩); (exact HC1.out _); clear hK K))
    with_reducible refine wpQuiet_nil ?_
    intro _ hw'
    obtain ⟨nq, rfl⟩ := hw'
    obtain ⟨hf1, ha1⟩ := HBAD.out (by unfold goodF; simp [t1, t2, t3])
    have H4 := Lib.hid (H3.out.kept (HFF.out nq))
    clear e1 e2 HFF HFA hI HC1 H3
    generalize F1 nq = w4 at *
    subst hf1 ha1
    go_wp2_with fail
    go_ret2
    refine ⟨_, o, r, rfl, ?_, _, _, rfl, rfl, ?_⟩
    · rw [noEv_same hev]; exact HT.out.trans H4.out
    · rw [hev]; exact Eo.nil _ _ _
end
end Go.Proofs.YtnpihllannobgaaGreatDoor
namespace Go.Proofs.YtnpihllannobgaaGreatDoor
set_option linter.unusedVariables false
set_option linter.unusedSimpArgs false
open Go.ChangeShapes Go.WideShapes Go.ChangeAt Go.RowKit

def parentsN (s : NSt) : List Int := match s.p with | none => [] | some x => x.2.map Pa.node
section
variable {w0 w w' : World} {o0 o o' : Cls} {c : Cfg} {i b : Nat} {s s' : NSt} {r r' : NR}
theorem nsynced_any (h : NAt w0 o0 c i b s w o r) : Calls Tryz.prog 10 #[.pointer (some ⟨b, 0, none⟩)] w (PV0 (.bool s.synced) w) := by
  have c2 : w.cell? ⟨b, 18, none⟩ = some (.bool s.synced) := h.cell 18
  clear h
  go_enter Tryz.func10, Tryz.ntmps10
  go_wp2_with fail
  go_ret
  exact ⟨rfl, rfl⟩
theorem nparents_any (h : NAt w0 o0 c i b s w o r) (hp : s.p ≠ none) : Calls Tryz.prog 9 #[.pointer (some ⟨b, 0, none⟩)] w (PNew VI 3 w (parentsN s)) := by
  have c3 : w.cell? ⟨b, 19, none⟩ = some r.pv := h.cell 19
  have hpo := h.nd.np.2.2.2.2.2.2.2.1
  obtain ⟨⟨rank, L⟩, hx⟩ := Option.ne_none_iff_exists'.1 hp
  rw [hx] at hpo
  obtain ⟨pb, row, e1, hP, _, _, _, _, hL, _⟩ := hpo
  rw [e1] at c3
  have HR := Lib.hid (all_any' w pb row i rank L hP (by omega))
  have he : parentsN s = L.map Pa.node := by unfold parentsN; rw [hx]
  rw [he]
  clear h hP hx hp he
  go_enter Tryz.func9, Tryz.ntmps9
  go_wp2_with fail
  (with_reducible refine HR.out.mono ?_)
  rintro en w1 ⟨v, rfl, h1, h2⟩
  have H1 := Lib.hid (And.intro h1 h2)
  clear h1 h2
  go_wp2_with fail
  go_ret
  exact ⟨v, rfl, H1.out⟩
def offN (s : NSt) : Int := s.base + downf s.sum
theorem noff_any (h : NAt w0 o0 c i b s w o r) (hx : -1000000000000000 ≤ s.base ∧ s.base ≤ 1000000000000000) (hy : -1000000000000000 ≤ s.sum ∧ s.sum ≤ 1000000000000000) :
    Calls Tryz.prog 33 #[.pointer (some ⟨b, 0, none⟩)] w (PV (.int .i64 (offN s)) w) := by
  have c1 : w.cell? ⟨b, 10, none⟩ = some (.pointer (some ⟨r.clk, 0, none⟩)) := h.cell 10
  have HM := Lib.hid (ckoff_quiet w r.clk s.base s.sum s.slots h.nd.np.2.2.1.1 hx hy)
  obtain ⟨q, hq⟩ : ∃ q, q = r.clk := ⟨_, rfl⟩
  rw [← hq] at c1 HM
  unfold offN
  obtain ⟨t, ht⟩ : ∃ t, t = s.base + downf s.sum := ⟨_, rfl⟩
  rw [← ht] at HM ⊢
  clear h hq ht
  go_enter Tryz.func33, Tryz.ntmps33
  go_wp2_with fail
  (with_reducible refine HM.out.mono ?_)
  rintro en w1 ⟨rfl, m, hm⟩
  have HG := Lib.hid (show Chg (fun _ => False) w w1 from hm ▸ Chg.drewN _ _ _)
  clear hm HM
  go_wp2_with fail
  go_ret
  exact ⟨rfl, HG.out⟩
end
end Go.Proofs.YtnpihllannobgaaGreatDoor
namespace Go.Proofs.YtnpihllannobgaaGreatDoor
set_option linter.unusedVariables false
set_option linter.unusedSimpArgs false
open Go.ChangeShapes Go.WideShapes Go.ChangeAt Go.RowKit

section
variable {w0 w w' : World} {o0 o o' : Cls} {c : Cfg} {i b : Nat} {s s' : NSt} {r r' : NR}
set_option maxRecDepth 100000 in
/-- nothing that may be answered was sent. -/
theorem nack_closed (h : NAt w0 o0 c i b s w o r) (now m : Int) (v : Value) (hs : s.synced = false ∨ s.sopen = false ∨ s.sasn ≠ now) :
    Calls Tryz.prog 36 #[.pointer (some ⟨b, 0, none⟩), .int .i64 now, v, .int .i64 m] w (PV0 (.slice none 0 0) w) := by
  have c18 : w.cell? ⟨b, 18, none⟩ = some (.bool s.synced) := h.cell 18
  have c30 : w.cell? ⟨b, 30, none⟩ = some (.bool s.sopen) := h.cell 30
  have c23 : w.cell? ⟨b, 23, none⟩ = some (.int .i64 s.sasn) := h.cell 23
  clear h
  cases hsy : s.synced with
  | false =>
    rw [hsy] at c18
    clear hs
    go_enter Tryz.func36, Tryz.ntmps36
    go_wp2_with fail
    go_ret
    exact ⟨rfl, rfl⟩
  | true =>
    rw [hsy] at c18
    cases hop : s.sopen with
    | false =>
      rw [hop] at c30
      clear hs
      go_enter Tryz.func36, Tryz.ntmps36
      go_wp2_with fail
      go_ret
      exact ⟨rfl, rfl⟩
    | true =>
      rw [hop] at c30
      have hne : s.sasn ≠ now := by
        rcases hs with h | h | h
        · rw [hsy] at h; cases h
        · rw [hop] at h; cases h
        · exact h
      have t1 : (s.sasn != now) = true := by simpa using hne
      clear hs hne
      go_enter Tryz.func36, Tryz.ntmps36
      go_wp2_with fail
      go_ret
      exact ⟨rfl, rfl⟩
def opnN (s : NSt) (x : Bool) : NSt := { s with sopen := x }
set_option maxRecDepth 100000 in
set_option maxHeartbeats 8000000 in
/-- what comes back is no frame, and no data was sent. -/
theorem nack_bad (h : NAt w0 o0 c i b s w o r) (now m : Int) (v : Value) (L : List Int) (hv : BO w o v L) (hL : L.length ≤ 100000) (hbad : (decF L).1 ≠ 0) (hs : s.synced = true ∧ s.sopen = true ∧ s.sasn = now) (hk : s.skind ≠ 1) :
    Calls Tryz.prog 36 #[.pointer (some ⟨b, 0, none⟩), .int .i64 now, v, .int .i64 m] w (PN w0 o0 c i b (noEv (opnN s false)) (fun v w' o' => Eo w' o' (cl i 9) v s.ev)) := by
  obtain ⟨hsy, hop, hsa⟩ := hs
  have c18 : w.cell? ⟨b, 18, none⟩ = some (.bool true) := by rw [← hsy]; exact h.cell 18
  have c30 : w.cell? ⟨b, 30, none⟩ = some (.bool true) := by rw [← hop]; exact h.cell 30
  have c23 : w.cell? ⟨b, 23, none⟩ = some (.int .i64 now) := by rw [← hsa]; exact h.cell 23
  have c26 : w.cell? ⟨b, 26, none⟩ = some (.int .i64 s.sdst) := h.cell 26
  have f30 := h.f 30
  have H1 := Lib.hid (h.set (r' := r) (s' := opnN s false) 30 (.bool false) rfl h.nd.np)
  have hlt := lt_of_block h.nd.blk
  have hvo : BO w o v L := hv
  have HDC := Lib.hid (fdecode_any _ v L ((hvo.keep (chg1 w b 30 (.bool false)) (fun j hj e => by have e : j = b := e; subst e; rw [h.nd.ob] at hj; exact cl_ne0 i 0 hj)).bs) hL)
  have hX : decF L = ((decF L).1, fr0) := by
    rcases decF_cases L with ⟨h1, _⟩ | ⟨_, h2⟩
    · exact absurd h1 hbad
    · rw [← h2]
  rw [hX] at HDC
  generalize (decF L).1 = e at *
  clear hX
  obtain ⟨⟨vA, vc, rfl, _⟩, _⟩ := hvo
  clear h hsy hop hsa
  go_enter Tryz.func36, Tryz.ntmps36
  go_wp2_with fail
  generalize w.setCell ⟨b, 30, none⟩ (.bool false) = w1 at *
  (with_reducible refine HDC.out.mono ?_)
  rintro en w2 ⟨iv, dv, rfl, hI, hD, hG⟩
  have H2 := Lib.hid (H1.out.kept hG)
  have HI2 := Lib.hid (hI o H1.out.z)
  have HD2 := Lib.hid (hD o H1.out.z)
  obtain ⟨iA, ic, hiv⟩ := HI2.out.val
  obtain ⟨⟨dA, dc, hdv, _⟩, _⟩ := HD2.out
  obtain ⟨il, hil⟩ : ∃ n, n = (fr0.ies).length := ⟨_, rfl⟩
  obtain ⟨dl, hdl⟩ : ∃ n, n = (fr0.data).length := ⟨_, rfl⟩
  dsimp only at hiv hdv HI2 HD2
  rw [← hil] at hiv
  rw [← hdl] at hdv
  subst hiv hdv
  clear hI hD hG H1 HDC hil hdl
  have ga := Chg.alloc (fun _ => False) w2 (.cells #[.int .i64 0, .int .i64 0, .int .i64 0, .int .i64 0, .slice iA il ic, .slice dA dl dc] 71)
  have HB3 := Lib.hid (block_alloc w2 (.cells #[.int .i64 0, .int .i64 0, .int .i64 0, .int .i64 0, .slice iA il ic, .slice dA dl dc] 71))
  have HT := Lib.hid (H2.out.kept ga)
  have HR := Lib.hid (nrankf_any _ o fr0 (.slice iA il ic) dA dl dc now (HI2.out.keep ga (fun _ _ e => e)) (by simp [fr0]) (by intro e he; cases he))
  unfold frV fr0 at HR
  unfold frV fr0
  go_wp2_with fail
  (with_reducible refine HR.out.mono ?_)
  rintro en w3 ⟨rfl, g3⟩
  have H3 := Lib.hid (HT.out.kept g3)
  have c24 : w3.cell? ⟨b, 24, none⟩ = some (.int .i64 s.skind) := H3.out.cell 24
  have HTL := Lib.hid (fun W (g : Chg (fun _ => False) w3 W) => ntells_any (H3.out.kept g))
  have C24 := Lib.hid (fun W (g : Chg (fun _ => False) w3 W) => (H3.out.kept g).cell 24)
  have t1 : (e == 0) = false := by simpa using hbad
  have t2 : (s.skind == 1) = false := by simpa using hk
  clear ga HB3 HT HR g3 H2 hlt
  go_wp2_with fail
  obtain ⟨I, F1, hI, hF1, hFA⟩ := clsF w3
  have HFF := Lib.hid hF1
  have HFA := Lib.hid (hFA _ (Chg.drew _ _))
  clear hF1 hFA
  with_reducible refine wp_region_cls F1 (by kernel_rfl) (by kernel_rfl) HFA.out ?_
  repeat ((with_reducible refine wpQuiet_step (fun K hK => ?_)); go_simp; (try (rw [if_neg]; rotate_left; (intro h; cases h))); first | ((with_reducible refine hK _ ?_); clear hK K) | (apply Exists.intro; (with_reducible refine ⟨fun _ => ?_, hK _ ?_⟩); (exact False.elim (by assumption)); clear hK K))
  with_reducible refine wpQuiet_nil ?_
  intro _ hw'
  obtain ⟨nq, rfl⟩ := hw'
  have HTL2 := Lib.hid (HTL.out _ (HFF.out nq))
  have c24 : (F1 nq).cell? ⟨b, 24, none⟩ = some (.int .i64 s.skind) := C24.out _ (HFF.out nq)
  clear HFF HFA hI HTL C24
  generalize F1 nq = w4 at *
  go_wp2_with fail
  (with_reducible refine HTL2.out.mono ?_)
  rintro en w5 ⟨v5, o5, r5, rfl, h5, hE5⟩
  have H5 := Lib.hid (And.intro h5 hE5)
  clear h5 hE5 HTL2
  go_wp2_with fail
  go_ret
  exact ⟨_, o5, r5, rfl, H5.out.1, H5.out.2⟩
end
end Go.Proofs.YtnpihllannobgaaGreatDoor
namespace Go.Proofs.YtnpihllannobgaaGreatDoor
set_option linter.unusedVariables false
set_option linter.unusedSimpArgs false
open Go.ChangeShapes Go.WideShapes Go.ChangeAt Go.RowKit

section
variable {w0 w w' : World} {o0 o o' : Cls} {c : Cfg} {i b : Nat} {s s' : NSt} {r r' : NR}
set_option maxRecDepth 100000 in
theorem nend_off (h : NAt w0 o0 c i b s w o r) (now : Int) (h0 : 0 ≤ now) (h1 : now < 1099511627776) (hs : i = 0 ∨ s.synced = false) :
    Calls Tryz.prog 38 #[.pointer (some ⟨b, 0, none⟩), .int .i64 now] w (PV0 (.slice none 0 0) w) := by
  have HA := Lib.hid (fun w => nasn_any now h0 h1 w)
  have c18 : w.cell? ⟨b, 18, none⟩ = some (.bool s.synced) := h.cell 18
  have c9 : w.cell? ⟨b, 9, none⟩ = some (.int .i64 i) := h.cell 9
  clear h
  by_cases hi : i = 0
  · subst hi
    clear hs
    go_enter Tryz.func38, Tryz.ntmps38
    go_wp2_with fail
    (with_reducible refine (HA.out _).mono ?_)
    rintro en w1 ⟨rfl, rfl⟩
    go_wp2_with fail
    go_ret
    exact ⟨rfl, rfl⟩
  · have hsy : s.synced = false := by
      rcases hs with h | h
      · exact absurd h hi
      · exact h
    rw [hsy] at c18
    have i0 : ((i : Int) == 0) = false := by simp; omega
    clear hs hi
    go_enter Tryz.func38, Tryz.ntmps38
    go_wp2_with fail
    (with_reducible refine (HA.out _).mono ?_)
    rintro en w1 ⟨rfl, rfl⟩
    go_wp2_with fail
    go_ret
    exact ⟨rfl, rfl⟩
def keptL (L : List Pa) (now loss : Int) : List Pa := L.filter (fun p => !(decide (p.heard ≤ now - loss)))
def tickK (x : Int) : Int := min (x + 1) 1000000
def endN (i : Nat) (s : NSt) (R : Int) (L : List Pa) (x : Int) (now loss : Int) : NSt := followsN i (pN (kN s (some (tickK x))) (some (R, keptL L now loss))) (firstN s)
set_option maxRecDepth 100000 in
set_option maxHeartbeats 8000000 in
theorem nend_keep (hc : CfgOk c) (h : NAt w0 o0 c i b s w o r) (now : Int) (h0 : 0 ≤ now) (h1 : now < 1099511627776) (hi : i ≠ 0) (hsy : s.synced = true) (R : Int) (L : List Pa) (x : Int) (hp : s.p = some (R, L)) (hk : s.k = some x) (hev : s.ev.length ≤ 900)
    (hne : firstN (pN (kN s (some (tickK x))) (some (R, keptL L now c.loss))) ≠ 64) :
    Calls Tryz.prog 38 #[.pointer (some ⟨b, 0, none⟩), .int .i64 now] w (PN w0 o0 c i b (noEv (endN i s R L x now c.loss)) (fun v w' o' => Eo w' o' (cl i 9) v (endN i s R L x now c.loss).ev)) := by
  have HA := Lib.hid (fun w => nasn_any now h0 h1 w)
  have c18 : w.cell? ⟨b, 18, none⟩ = some (.bool true) := by rw [← hsy]; exact h.cell 18
  have c9 : w.cell? ⟨b, 9, none⟩ = some (.int .i64 i) := h.cell 9
  have c20 : w.cell? ⟨b, 20, none⟩ = some r.kv := h.cell 20
  have hko := h.nd.np.2.2.2.2.2.2.2.2.1
  rw [hk] at hko
  obtain ⟨kb, hk1, hk2, hk3, hk4⟩ := hko
  rw [hk1] at c20
  have HK := Lib.hid (kpslot_any w kb c.keep x (tickK x) hk2 (by omega) (by omega) rfl)
  have HK2 := Lib.hid (fun w' k g => h.kset (w' := w') (x := tickK x) hk1 hk3 k (by unfold tickK; omega) g)
  have i0 : ((i : Int) == 0) = false := by simp; omega
  clear h hk hk1 hk2 hk3 hk4 hsy
  go_enter Tryz.func38, Tryz.ntmps38
  go_wp2_with fail
  (with_reducible refine (HA.out _).mono ?_)
  rintro en w1 ⟨rfl, rfl⟩
  go_wp2_with fail
  (with_reducible refine HK.out.mono ?_)
  rintro en w2 ⟨rfl, k1, k2⟩
  have H2 := Lib.hid (HK2.out _ k1 k2)
  clear k1 k2 HK HK2
  have HF := Lib.hid (nfirst_any H2.out)
  go_wp2_with fail
  (with_reducible refine HF.out.mono ?_)
  rintro en w3 ⟨rfl, g3⟩
  have H3 := Lib.hid (H2.out.kept g3)
  have hpo := H3.out.nd.np.2.2.2.2.2.2.2.1
  obtain ⟨pb, row, e1, hP, hq1, hq2, hR0, hR1, hL, hS⟩ := (show Po w3 o (cl i 6) r.pv i (some (R, L)) from hp ▸ hpo)
  have c19 : w3.cell? ⟨b, 19, none⟩ = some (.pointer (some ⟨pb, 0, none⟩)) := e1 ▸ H3.out.cell 19
  have c6 : w3.cell? ⟨b, 6, none⟩ = some (.int .i64 c.loss) := H3.out.cell 6
  have HO := Lib.hid (fun W (g : Chg (fun _ => False) w3 W) => psold_any W pb row i R L now c.loss (hP.kept g) hL h0 (by omega) (by have := hc.l; omega) hc.l.2)
  have HPS := Lib.hid (fun W (g : Chg (fun _ => False) w3 W) w' v' g2 P hn => (H3.out.kept g).pset (w' := w') (v' := v') (R' := R) (L' := keptL L now c.loss) e1 hq1 hq2 g2 P hn ⟨hR0, hR1⟩ (Nat.le_trans (List.length_filter_le _ _) hL) (hS.filter _))
  clear g3 HF H2 hpo hP hq1 hq2 hR0 hR1 hL hS e1
  go_wp2_with fail
  go_still_tail 10, (by kernel_rfl)
  change wpList _ _ _ _ _ w3.drew
  go_wp2_with fail
  (with_reducible refine (HO.out _ (Chg.drew _ w3)).mono ?_)
  rintro en w4 ⟨vo, v', rfl, hP4, g4, hv4⟩
  obtain ⟨o4, h4⟩ := HPS.out _ (Chg.drew _ w3) w4 v' g4 hP4 (fun k hk => .inl (by rw [← hv4]; exact hk))
  have H4 := Lib.hid h4
  have HF := Lib.hid (nfirst_any h4)
  clear hP4 g4 hv4 h4 HPS HO c19 c6
  obtain ⟨t, ht⟩ : ∃ t, t = firstN (pN (kN s (some (tickK x))) (some (R, keptL L now c.loss))) := ⟨_, rfl⟩
  rw [← ht] at HF hne
  have t64 : (t != 64) = true := by simpa using hne
  obtain ⟨was, hw⟩ : ∃ f, f = firstN (kN s (some (tickK x))) := ⟨_, rfl⟩
  rw [← hw]
  have HW := Lib.hid (show was = firstN s from hw)
  clear ht hw hne
  go_wp2_with fail
  (with_reducible refine HF.out.mono ?_)
  rintro en w5 ⟨rfl, g5⟩
  have HFO := Lib.hid (nfollows_any (H4.out.kept g5) was (show s.ev.length ≤ 1000 by omega))
  clear g5 HF
  go_wp2_with fail
  (with_reducible refine HFO.out.mono ?_)
  rintro en w6 ⟨v6, o6, r6, rfl, h6, rfl⟩
  have HTL := Lib.hid (ntells_any h6)
  clear h6 HFO
  go_wp2_with fail
  (with_reducible refine HTL.out.mono ?_)
  rintro en w7 ⟨v7, o7, r7, rfl, h7, hE7⟩
  have H7 := Lib.hid (And.intro h7 hE7)
  clear h7 hE7 HTL
  go_wp2_with fail
  go_ret
  have hfin := H7.out
  rw [HW.out] at hfin
  exact ⟨_, o7, r7, rfl, hfin.1, hfin.2⟩
end
end Go.Proofs.YtnpihllannobgaaGreatDoor
namespace Go.Proofs.YtnpihllannobgaaGreatDoor
set_option linter.unusedVariables false
set_option linter.unusedSimpArgs false

/- what a node sends -/
def dueN (c : Cfg) (s : NSt) : Bool := match s.k with | none => false | some x => decide (c.keep ≤ x)
def nextN (c : Cfg) (i : Nat) (s : NSt) (now : Int) : Fr :=
  if (pktN s).2.2 then ⟨1, i, (pktN s).2.1, s.seq, [syncE i s now], (pktN s).1⟩
  else if firstN s ≠ 64 ∧ dueN c s = true then ⟨4, i, firstN s, s.seq, [syncE i s now], []⟩
  else ⟨3, i, 64, s.seq, [syncE i s now, ⟨3, 0, 0, 0, c.hops⟩], []⟩
def sendN (s : NSt) (f : Fr) (now : Int) : NSt :=
  { s with seq := (s.seq + 1) % 256, sasn := now, skind := f.kind, ssrc := f.src, sdst := f.dst, sseq := f.seq, sopen := f.kind != 3 }
def encO (f : Fr) : List Int := if mayF f then encF f else []
def chanN (c : Cfg) (s : NSt) (now : Int) : Int := chanOf c.hops (if s.synced then now else s.slots / ((c.nodes : Int) * (c.hops.length : Int)))
/-- how it is then, its channel, its bytes. -/
def planN (c : Cfg) (i : Nat) (s : NSt) (now : Int) : NSt × Int × List Int :=
  if s.synced && decide (now % (c.nodes : Int) = (i : Int)) then (sendN s (nextN c i s now) now, chanN c s now, encO (nextN c i s now)) else (s, chanN c s now, [])
/- what goes back -/
def ackFr (i : Nat) (s : NSt) (f : Fr) (now ms : Int) : Fr := ⟨2, i, f.src, f.seq, [syncE i s now, ⟨2, 0, 0, -ms, []⟩], []⟩
def backA (i : Nat) (f : Fr) (now ms : Int) (s : NSt) : Option (List Int) :=
  if f.dst = (i : Int) ∧ (f.kind = 1 ∨ f.kind = 4) then (if mayF (ackFr i s f now ms) then some (encF (ackFr i s f now ms)) else none) else none
/- answers -/
def goodA (i : Nat) (s : NSt) (x : Int × Fr) (now : Int) : Bool :=
  x.1 == 0 && (rankF x.2 now).2 && x.2.kind == 2 && x.2.src == s.sdst && x.2.dst == (i : Int) && x.2.seq == s.sseq
def ticksF (f : Fr) : Int := match findE f.ies 2 with | none => 0 | some e => e.ticks
def ackN (i : Nat) (s : NSt) (L : List Int) (now : Int) : NSt :=
  if s.synced && s.sopen && decide (s.sasn = now) then
    if goodA i s (decF L) now then
      (if i ≠ 0 ∧ firstN s = s.sdst then hearsN i (opnN s false) s.sdst (rankF (decF L).2 now).1 now (ticksF (decF L).2) else opnN s false)
    else opnN s false
  else s
/- the end of a slot -/
def endS (c : Cfg) (i : Nat) (s : NSt) (now : Int) : NSt :=
  if i = 0 ∨ s.synced = false then s else match s.p, s.k with | some (R, L), some x => endN i s R L x now c.loss | _, _ => s

/- the world -/
def s00 : NSt := ⟨0, 0, 0, [], fun _ => none, fun _ => none, fun _ => none, 0, 0, 0, false, none, none, 0, fun _ => none, 0, 0, 0, 0, 0, false, []⟩
/-- what a slot comes with. -/
structure Dr where
  drift : List Int
  lost : List Int
  acks : List Int
  err : List Int
/-- what is in the air: a channel, bytes, how far off. -/
abbrev Snd := Int × List Int × Int
structure WM where
  nodes : List NSt
  bound : List Int
  ev : List Ev
  air : List Snd
  back : List (Option (List Int))
def iter {α : Type} (f : Nat → α → α) : Nat → α → α
  | 0, x => x
  | k + 1, x => f k (iter f k x)
def atL (l : List Int) (i : Nat) : Int := l.getD i 0
def WM.nd (x : WM) (i : Nat) : NSt := x.nodes.getD i s00
def WM.put (x : WM) (i : Nat) (s : NSt) : WM := { x with nodes := x.nodes.set i s }
def WM.snd (x : WM) (i : Nat) : Snd := x.air.getD i (0, [], 0)
def ageB (i : Nat) (b : Int) : Int := if 0 < i ∧ 0 ≤ b then min (b + 1) 1000000000000 else b
def driftF (d : Dr) (i : Nat) (x : WM) : WM := { x with nodes := x.nodes.set i (slotN i (atL d.drift i) (x.nd i)), bound := x.bound.set i (ageB i (atL x.bound i)) }
def planF (c : Cfg) (now : Int) (i : Nat) (x : WM) : WM :=
  { x with nodes := x.nodes.set i (planN c i (x.nd i) now).1, air := x.air.set i ((planN c i (x.nd i) now).2.1, (planN c i (x.nd i) now).2.2, offN (planN c i (x.nd i) now).1) }
def tellF (err : Int) (known : List Int) (b : List Int) (e : Ev) : List Int :=
  if e.kind = 7 then b.set e.i.toNat (if 0 ≤ atL known e.src.toNat then atL known e.src.toNat + err else -1) else if e.kind = 3 then b.set e.i.toNat (-1) else b
def WM.tells (c : Cfg) (known : List Int) (x : WM) (l : List Ev) : WM := { x with bound := l.foldl (tellF c.err known) x.bound, ev := x.ev ++ l }
/-- bit j of a row of bits, without those of another one. -/
def bitW (near lost : Int) (j : Nat) : Bool := decide (near / 2 ^ j % 2 = 1) && decide (lost / 2 ^ j % 2 = 0)
def hearsB (c : Cfg) (d : Dr) (x : WM) (i j : Nat) : Bool :=
  bitW (atL c.near i) (atL d.lost i) j && (!(x.snd j).2.1.isEmpty && (x.snd j).1 == (x.snd i).1) && (!(x.nd i).synced || withinB (x.snd i).2.2 (x.snd j).2.2 c.guard)
def heardW (c : Cfg) (d : Dr) (x : WM) (i : Nat) : List Nat := (List.range c.nodes).filter (hearsB c d x i)
def msW (c : Cfg) (d : Dr) (x : WM) (i j : Nat) : Int := meas (x.snd i).2.2 (x.snd j).2.2 (atL d.err i) c.err
/-- node i hears node j. -/
def hear1W (c : Cfg) (d : Dr) (known : List Int) (now : Int) (i j : Nat) (x : WM) : WM :=
  let X := decF (x.snd j).2.1
  let s := hearN i c (x.nd i) X now (msW c d x i j) id
  { WM.tells c known (x.put i (noEv s)) s.ev with back := x.back.set i (ansN i c (x.nd i) X now (msW c d x i j) (backA i X.2 now (msW c d x i j))) }
def hearF (c : Cfg) (d : Dr) (known : List Int) (now : Int) (i : Nat) (x : WM) : WM :=
  if (x.snd i).2.1.isEmpty then (match heardW c d x i with | [j] => hear1W c d known now i j x | _ => x) else x
def answerW (c : Cfg) (d : Dr) (x : WM) (i : Nat) : Option (List Int) :=
  let X := decF (x.snd i).2.1
  if X.1 == 0 && inR X.2.dst 0 ((c.nodes : Int) - 1) && bitW (atL c.near i) (atL d.acks i) X.2.dst.toNat then x.back.getD X.2.dst.toNat none else none
def ackF (c : Cfg) (d : Dr) (known : List Int) (now : Int) (i : Nat) (x : WM) : WM :=
  if (x.snd i).2.1.isEmpty then x else
  let s := ackN i (x.nd i) ((answerW c d x i).getD []) now
  WM.tells c known (x.put i (noEv s)) s.ev
def endF (c : Cfg) (known : List Int) (now : Int) (i : Nat) (x : WM) : WM :=
  WM.tells c known (x.put i (noEv (endS c i (x.nd i) now))) (endS c i (x.nd i) now).ev
/-- behind the clocks. -/
def slot1W (d : Dr) (n : Nat) (x : WM) : WM := iter (driftF d) n x
def slot2W (c : Cfg) (d : Dr) (n : Nat) (now : Int) (x : WM) : WM := iter (planF c now) n { slot1W d n x with air := List.replicate n (0, [], 0) }
def slot3W (c : Cfg) (d : Dr) (n : Nat) (now : Int) (x : WM) : WM := iter (hearF c d (slot1W d n x).bound now) n { slot2W c d n now x with back := List.replicate n none }
def slot4W (c : Cfg) (d : Dr) (n : Nat) (now : Int) (x : WM) : WM := iter (ackF c d (slot1W d n x).bound now) n (slot3W c d n now x)
def slot5W (c : Cfg) (d : Dr) (n : Nat) (now : Int) (x : WM) : WM := iter (endF c (slot1W d n x).bound now) n (slot4W c d n now x)
end Go.Proofs.YtnpihllannobgaaGreatDoor
