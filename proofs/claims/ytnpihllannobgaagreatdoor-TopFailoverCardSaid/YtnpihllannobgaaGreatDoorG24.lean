/- A node hears, and what goes back. What a world makes for a slot. No condition. -/
import Derived.Test.YtnpihllannobgaaGreatDoorG23
import Derived.Laws.MakeOwn
namespace Go.Proofs.YtnpihllannobgaaGreatDoor
set_option linter.unusedVariables false
set_option linter.unusedSimpArgs false
open Go.ChangeShapes Go.WideShapes Go.ChangeAt Go.RowKit

section
variable {w0 w w' : World} {o0 o o' : Cls} {c : Cfg} {i b : Nat} {s s' : NSt} {r r' : NR}
theorem hearsN_p (i : Nat) (s : NSt) (src rk now t : Int) (h : s.p ≠ none) : (hearsN i s src rk now t).p ≠ none := by
  have e1 : ∀ (s2 : NSt) q, (followsN i s2 q).p = s2.p := fun s2 q => by unfold followsN; split <;> rfl
  have e2 : (hears1N i (heardN s src rk now) src t).p = (heardN s src rk now).p := by unfold hears1N; split <;> rfl
  unfold hearsN
  rw [e1, e2]
  obtain ⟨x, hx⟩ := Option.ne_none_iff_exists'.1 h
  unfold heardN pN
  rw [hx]
  simp
set_option maxRecDepth 100000 in
set_option maxHeartbeats 16000000 in
theorem nhear2_any (hc : CfgOk c) (h : NAt w0 o0 c i b s w o r) (hi : i < c.nodes) (v : Value) (L : List Int) (hv : BS w w.heap.size v L) (hL : L.length ≤ 100000) (now ms : Int) (h0 : 0 ≤ now) (h1 : now < 1099511627776) (hev : s.ev = []) (hms : -30000 < ms ∧ ms < 30000)
    (hb : -1000000000000000 ≤ s.base ∧ s.base ≤ 1000000000000000) (hp : s.synced = true → i ≠ 0 → s.p ≠ none ∧ s.k ≠ none) (B : NSt → NSt) (A : NSt → Option (List Int)) (X : Int × Fr) (hX : X = decF L)
    (HB : ∀ (W0 : World) (O0 : Cls) (s2 : NSt) (W : World) (o' : Cls) (r' : NR) iA il ic dA dl dc, NAt W0 O0 c i b s2 W o' r' → s2.ev.length ≤ 900 → (s2.synced = true → i ≠ 0 → s2.p ≠ none) → IeO W o' (.slice iA il ic) X.2.ies → BO W o' (.slice dA dl dc) X.2.data →
      Calls Tryz.prog 108 #[.pointer (some ⟨b, 0, none⟩), frV X.2 (.slice iA il ic) (.slice dA dl dc), .int .i64 now, .int .i64 ms] W (PN W0 O0 c i b (B s2) (fun v W' o'' => AV (A s2) v W' o''))) :
    Calls Tryz.prog 63 #[.pointer (some ⟨b, 0, none⟩), .int .i64 now, v, .int .i64 ms] w (PHearN w0 o0 c i b (hearN i c s X now ms B) (ansN i c s X now ms A)) := by
  have HD := Lib.hid (fdecode_any w v L hv hL)
  rw [← hX] at HD
  have HA := Lib.hid (fun w => nasn_any now h0 h1 w)
  have hcs : (X.1 = 0 ∧ mayF X.2 = true) ∨ (X.1 ≠ 0 ∧ X.2 = fr0) := by rw [hX]; exact decF_cases L
  obtain ⟨F, hF⟩ : ∃ F, F = hearN i c s X now ms B := ⟨_, rfl⟩
  obtain ⟨a, ha⟩ : ∃ a, a = ansN i c s X now ms A := ⟨_, rfl⟩
  rw [← hF, ← ha]
  have HF := Lib.hid (And.intro hF ha)
  have H := Lib.hid h
  have HLB := Lib.hid (lt_of_block h.nd.blk)
  obtain ⟨vA, vc, rfl, _⟩ := hv
  obtain ⟨vn, hvn⟩ : ∃ n, n = L.length := ⟨_, rfl⟩
  rw [← hvn] at HD ⊢
  have HBB := Lib.hid HB
  clear h hF ha hX HB hvn hL
  go_enter Tryz.func63, Tryz.ntmps63
  go_wp2_with fail
  (with_reducible refine (HA.out _).mono ?_)
  rintro en w1 ⟨rfl, rfl⟩
  go_wp2_with fail
  (with_reducible refine HD.out.mono ?_)
  rintro en w2 ⟨iv, dv, rfl, hI, hD, hG⟩
  have H2 := Lib.hid (H.out.kept hG)
  have HI2 := Lib.hid (hI o H.out.z)
  have HD2 := Lib.hid (hD o H.out.z)
  obtain ⟨iA, ic, hiv⟩ := HI2.out.val
  obtain ⟨⟨dA, dc, hdv, _⟩, _⟩ := HD2.out
  clear hI hD hG H HD
  obtain ⟨e, f⟩ := X
  dsimp only at hiv hdv HI2 HD2 hcs HBB HF ⊢
  obtain ⟨il, hil⟩ : ∃ n, n = f.ies.length := ⟨_, rfl⟩
  obtain ⟨dl, hdl⟩ : ∃ n, n = f.data.length := ⟨_, rfl⟩
  rw [← hil] at hiv
  rw [← hdl] at hdv
  subst hiv hdv
  clear hil hdl
  have ga := Chg.alloc (fun _ => False) w2 (.cells #[.int .i64 f.kind, .int .i64 f.src, .int .i64 f.dst, .int .i64 f.seq, .slice iA il ic, .slice dA dl dc] 71)
  have HB3 := Lib.hid (block_alloc w2 (.cells #[.int .i64 f.kind, .int .i64 f.src, .int .i64 f.dst, .int .i64 f.seq, .slice iA il ic, .slice dA dl dc] 71))
  have HT := Lib.hid (H2.out.kept ga)
  have HI3 := Lib.hid (HI2.out.keep ga (fun _ _ e => e))
  have HD3 := Lib.hid (HD2.out.keep ga (fun _ _ e => e))
  have HZ0 := Lib.hid (H2.out.z _ (Nat.le_refl _))
  clear ga HI2 HD2 H2
  unfold frV
  go_wp2_with fail
  generalize hW : w2.alloc (.cells #[.int .i64 f.kind, .int .i64 f.src, .int .i64 f.dst, .int .i64 f.seq, .slice iA il ic, .slice dA dl dc] 71) = w3 at *
  have HBK := Lib.hid (show ∀ W s' o' r', NAt w3 o c i b s' W o' r' → W.heap[w2.heap.size]? = some (.cells #[.int .i64 f.kind, .int .i64 f.src, .int .i64 f.dst, .int .i64 f.seq, .slice iA il ic, .slice dA dl dc] 71 (0, 0)) from
    fun W s' o' r' hN => Chg.keep hN.chg HB3.out (fun e => by obtain ⟨j, _, e⟩ := e; rw [HZ0.out] at e; exact cl_ne0 i j e.symm))
  have H3 := Lib.hid (NAt.start HT.out.nd HT.out.z)
  obtain ⟨d0, d1, d2, d3, d4, d5⟩ := cell6 HB3.out
  have c1 : w3.cell? ⟨b, 9, none⟩ = some (.int .i64 i) := H3.out.cell 9
  obtain ⟨I, F1, hI, hF1, hFA⟩ := clsF w3
  have e1 := cellF hF1 d1
  have e2 := cellF hF1 c1
  obtain ⟨M, hM⟩ : ∃ M, M = inR f.src 0 ((c.nodes : Int) - 1) := ⟨_, rfl⟩
  have HC1 := Lib.hid (show ∀ n, Calls Tryz.prog 78 #[.pointer (some ⟨b, 0, none⟩), .int .i64 f.src] (F1 n) (fun e w' => e = .returned (.bool M) ∧ ∃ m, w' = F1 m) from
    fun n => (nhas_any (H3.out.kept (hF1 n)) f.src hc.n1).mono (fun e w' ⟨h1, h2⟩ => ⟨by rw [hM]; exact h1, n, h2⟩))
  have HFF := Lib.hid hF1
  have HFA := Lib.hid (hFA _ (Chg.drew _ _))
  have HBAD := Lib.hid (show goodF i c (e, f) = false → F = s ∧ a = none from fun hg => ⟨by rw [HF.out.1]; unfold hearN; rw [hg]; rfl, by rw [HF.out.2]; unfold ansN; rw [hg]; rfl⟩)
  have HM := Lib.hid hM
  clear hF1 hFA d0 d1 d2 d3 d4 d5 c1 hW hM
  with_reducible refine wp_region_cls F1 (by kernel_rfl) (by kernel_rfl) HFA.out ?_
  by_cases he : e = 0
  · have t1 : (e != 0) = false := by simp [he]
    have hmay : mayF f = true := by
      rcases hcs with h | h
      · exact h.2
      · exact absurd he h.1
    have HMAY := Lib.hid hmay
    clear hcs hmay
    cases hMM : M with
    | false =>
      rw [hMM] at HC1
      repeat ((with_reducible refine wpQuiet_step (fun K hK => ?_)); go_simp; (try (rw [if_neg]; rotate_left; (intro h; cases h))); first | ((with_reducible refine hK _ ?_); clear hK K) | (apply Exists.intro; (with_reducible refine ⟨fun _ => ?_, hK _ ?_⟩); (exact HC1.out _); clear hK K))
      with_reducible refine wpQuiet_nil ?_
      intro _ hw'
      obtain ⟨nq, rfl⟩ := hw'
      obtain ⟨hf1, ha1⟩ := HBAD.out (by unfold goodF; rw [← HM.out, hMM]; simp)
      have H4 := Lib.hid (H3.out.kept (HFF.out nq))
      clear e1 e2 HFF HFA hI HC1 H3
      generalize F1 nq = w4 at *
      subst hf1 ha1
      go_wp2_with fail
      go_ret2
      refine ⟨_, o, r, rfl, ?_, _, _, rfl, rfl, ?_⟩
      · rw [noEv_same hev]; exact HT.out.trans H4.out
      · rw [hev]; exact Eo.nil _ _ _
    | true =>
      rw [hMM] at HC1
      have HM2 := Lib.hid (hMM.symm.trans HM.out)
      clear hMM HM
      by_cases hsi : f.src = i
      · have t2 : (f.src == (i : Int)) = true := by simp [hsi]
        have HSI := Lib.hid hsi
        clear hsi
        repeat ((with_reducible refine wpQuiet_step (fun K hK => ?_)); go_simp; (try (rw [if_neg]; rotate_left; (intro h; cases h))); first | ((with_reducible refine hK _ ?_); clear hK K) | (apply Exists.intro; (with_reducible refine ⟨fun _ => ?_, hK _ ?_⟩); (exact HC1.out _); clear hK K))
        with_reducible refine wpQuiet_nil ?_
        intro _ hw'
        obtain ⟨nq, rfl⟩ := hw'
        obtain ⟨hf1, ha1⟩ := HBAD.out (by unfold goodF; simp [HSI.out])
        have H4 := Lib.hid (H3.out.kept (HFF.out nq))
        clear e1 e2 HFF HFA hI HC1 H3
        generalize F1 nq = w4 at *
        subst hf1 ha1
        go_wp2_with fail
        go_ret2
        refine ⟨_, o, r, rfl, ?_, _, _, rfl, rfl, ?_⟩
        · rw [noEv_same hev]; exact HT.out.trans H4.out
        · rw [hev]; exact Eo.nil _ _ _
      · have t2 : (f.src == (i : Int)) = false := by simp [hsi]
        have hg : goodF i c (e, f) = true := by unfold goodF; simp only []; rw [← HM2.out, t2, he]; rfl
        have HGD := Lib.hid hg
        repeat ((with_reducible refine wpQuiet_step (fun K hK => ?_)); go_simp; (try (rw [if_neg]; rotate_left; (intro h; cases h))); first | ((with_reducible refine hK _ ?_); clear hK K) | (apply Exists.intro; (with_reducible refine ⟨fun _ => ?_, hK _ ?_⟩); (exact HC1.out _); clear hK K))
        with_reducible refine wpQuiet_nil ?_
        intro _ hw'
        obtain ⟨nq, rfl⟩ := hw'
        have H4 := Lib.hid (H3.out.kept (HFF.out nq))
        have HI4 := Lib.hid (HI3.out.keep (HFF.out nq) (fun _ _ e => e))
        have HD4 := Lib.hid (HD3.out.keep (HFF.out nq) (fun _ _ e => e))
        clear e1 e2 HFF HFA hI HC1 H3 HBAD hg t1
        generalize F1 nq = w4 at *
        obtain ⟨d0, d1, d2, d3, d4, d5⟩ := cell6 (HBK.out _ _ _ _ H4.out)
        obtain ⟨hm1, hm2⟩ := mayF_ies HMAY.out
        have hR := nrankf_any w4 o f (.slice iA il ic) dA dl dc now HI4.out hm1 hm2
        have hrb := rankF_bd HMAY.out now
        obtain ⟨⟨rk, ok⟩, hRK⟩ : ∃ x, x = rankF f now := ⟨_, rfl⟩
        rw [← hRK] at hR hrb
        dsimp only at hR hrb
        unfold frV at hR
        have HR := Lib.hid hR
        have HRK := Lib.hid hRK
        clear hR hRK hm1 hm2
        go_wp2_with fail
        (with_reducible refine HR.out.mono ?_)
        rintro en w5 ⟨rfl, g5⟩
        have H5 := Lib.hid (H4.out.kept g5)
        have HI5 := Lib.hid (HI4.out.keep g5 (fun _ _ e => e))
        have HD5 := Lib.hid (HD4.out.keep g5 (fun _ _ e => e))
        clear g5 HR H4 HI4 HD4 d0 d1 d2 d3 d4 d5
        cases ok with
        | false =>
          have hf1 : F = s := by rw [HF.out.1]; unfold hearN; simp only []; rw [← HRK.out]; simp
          have ha1 : a = none := by rw [HF.out.2]; unfold ansN; simp only []; rw [← HRK.out]; simp
          go_wp2_with fail
          go_ret2
          refine ⟨_, o, r, rfl, ?_, _, _, rfl, ?_, ?_⟩
          · rw [hf1, noEv_same hev]; exact HT.out.trans H5.out
          · rw [ha1]; rfl
          · rw [hf1, hev]; exact Eo.nil _ _ _
        | true =>
          have c18 : w5.cell? ⟨b, 18, none⟩ = some (.bool s.synced) := H5.out.cell 18
          obtain ⟨m0, m1⟩ := hms
          obtain ⟨d0, d1, d2, d3, d4, d5⟩ := cell6 (HBK.out _ _ _ _ H5.out)
          have hrr := hrb
          have hsb : 0 ≤ f.src ∧ f.src ≤ 15 := by
            obtain ⟨_, _, _, q1, q2, _⟩ := mayF_of HMAY.out
            omega
          have HRX := Lib.hid (show rankF f now = (rk, true) from HRK.out.symm)
          cases hsy : s.synced with
          | false =>
            rw [hsy] at c18
            have HAD := Lib.hid (nadopt_any hc H5.out (by have := hc.n1; omega) f iA il ic dA dl dc rk now ms (by rw [hev]; simp) hb hsb (by simpa using hsi) hrr h0)
            unfold frV at HAD
            go_wp2_with fail
            (with_reducible refine HAD.out.mono ?_)
            rintro en w6 ⟨v6, o6, r6, rfl, h6, rfl⟩
            have hf1 : F = adoptN i c s f rk now ms := by rw [HF.out.1]; unfold hearN; simp only []; rw [HRX.out, HGD.out, hsy]; rfl
            have ha1 : a = none := by rw [HF.out.2]; unfold ansN; simp only []; rw [hsy]; simp
            rw [← hf1] at h6
            have HTL := Lib.hid (ntells_any h6)
            have HFA1 := Lib.hid ha1
            clear h6 HAD hf1 ha1 d0 d1 d2 d3 d4 d5
            go_wp2_with fail
            (with_reducible refine HTL.out.mono ?_)
            rintro en w7 ⟨v7, o7, r7, rfl, h7, hE7⟩
            have H7 := Lib.hid (And.intro h7 hE7)
            clear h7 hE7 HTL
            go_wp2_with fail
            go_ret2
            refine ⟨_, o7, r7, rfl, HT.out.trans H7.out.1, _, _, rfl, ?_, H7.out.2⟩
            rw [HFA1.out]; rfl
          | true =>
            rw [hsy] at c18
            have HEV := Lib.hid (nevent_any H5.out 1 f.src (by rw [hev]; simp))
            have HP := Lib.hid (hp hsy)
            have HSY := Lib.hid hsy
            clear hp hsy
            go_wp2_with fail
            (with_reducible refine HEV.out.mono ?_)
            rintro en w6 ⟨v6, o6, r6, rfl, h6, rfl⟩
            clear d0 d1 d2 d3 d4 d5 HEV c18
            obtain ⟨d0, d1, d2, d3, d4, d5⟩ := cell6 (HBK.out _ _ _ _ h6)
            have c9 : w6.cell? ⟨b, 9, none⟩ = some (.int .i64 i) := h6.cell 9
            have hl6 : (evN s ⟨1, i, f.src, 0, pk0⟩).ev.length ≤ 1 := by show (s.ev ++ [_]).length ≤ 1; rw [hev]; simp
            have HH := Lib.hid (fun (q : i ≠ 0) => nhears_any h6 f.src rk now ms (by omega) hb (HP.out q).2 (HP.out q).1 hsb (by simpa using hsi) hrr h0)
            have HIX := Lib.hid (And.intro (h6.io HT.out.z HI3.out) (h6.bo HT.out.z HD3.out))
            have HB6 := Lib.hid (HBB.out w3 o _ w6 o6 r6 iA il ic dA dl dc h6 (by omega) (fun _ q => (HP.out q).1) HIX.out.1 HIX.out.2)
            unfold frV at HB6
            obtain ⟨s1, hs1⟩ : ∃ s1, s1 = evN s ⟨1, i, f.src, 0, pk0⟩ := ⟨_, rfl⟩
            have H6 := Lib.hid h6
            rw [← hs1] at H6 HB6 HH
            have HS1P := Lib.hid (show i ≠ 0 → s1.p ≠ none from fun q => by rw [hs1]; exact (HP.out q).1)
            have hF1 : F = hear2N i s f rk now ms B := by rw [HF.out.1]; unfold hearN; simp only []; rw [HRX.out, HGD.out, HSY.out]; rfl
            have hA1 : a = (if i = 0 then A s1 else if firstN (hearsN i s1 f.src rk now ms) = 64 then none else A (hearsN i s1 f.src rk now ms)) := by rw [HF.out.2, hs1]; unfold ansN; simp only []; rw [HRX.out, HGD.out, HSY.out]; simp
            unfold hear2N at hF1
            rw [← hs1] at hF1
            have HFA1 := Lib.hid (And.intro hF1 hA1)
            have HLN2 := Lib.hid (show ∀ s2, s2 = hearsN i s1 f.src rk now ms → s2.ev.length ≤ 900 from fun s2 e => by
              have := hearsN_ev i s1 f.src rk now ms
              rw [e]
              have h1 : s1.ev.length ≤ 1 := by rw [hs1]; exact hl6
              omega)
            clear h6 hF1 hA1 hs1 hl6 HIX H5 HI5 HD5
            by_cases hi0 : i = 0
            · have HI0 := Lib.hid hi0
              have i0 : ((i : Int) != 0) = false := by simp [hi0]
              clear hi0
              go_wp2_with fail
              (with_reducible refine HB6.out.mono ?_)
              rintro en w7 ⟨v7, o7, r7, rfl, h7, hA7⟩
              have HTL := Lib.hid (ntells_any (NAt.start h7.nd h7.z))
              have H7 := Lib.hid (And.intro h7 hA7)
              clear d0 d1 d2 d3 d4 d5 c9 HB6 H6 h7 hA7 HH
              go_wp2_with fail
              (with_reducible refine HTL.out.mono ?_)
              rintro en w8 ⟨v8, o8, r8, rfl, h8, hE8⟩
              have H8 := Lib.hid (And.intro h8 hE8)
              clear h8 hE8 HTL
              go_wp2_with fail
              go_ret2
              have e1 : F = B s1 := by rw [HFA1.out.1, if_pos HI0.out]
              have e2 : a = A s1 := by rw [HFA1.out.2, if_pos HI0.out]
              rw [e1, e2]
              exact ⟨_, o8, r8, rfl, HT.out.trans (H7.out.1.trans H8.out.1), _, _, rfl, AV.told H8.out.1 H7.out.1.z H7.out.2, H8.out.2⟩
            · have HI0 := Lib.hid hi0
              have i0 : ((i : Int) != 0) = true := by simp [hi0]
              have HH2 := Lib.hid (HH.out hi0)
              clear hi0 HB6 HH
              go_wp2_with fail
              (with_reducible refine HH2.out.mono ?_)
              rintro en w7 ⟨v7, o7, r7, rfl, h7, rfl⟩
              obtain ⟨s2, hs2⟩ : ∃ s2, s2 = hearsN i s1 f.src rk now ms := ⟨_, rfl⟩
              rw [← hs2] at h7 HFA1
              have HF7 := Lib.hid (nfirst_any h7)
              have H7 := Lib.hid h7
              have HPN7 := Lib.hid (show s2.p ≠ none from by rw [hs2]; exact hearsN_p _ _ _ _ _ _ (HS1P.out (HI0.out)))
              have hl7 : s2.ev.length ≤ 900 := HLN2.out s2 hs2
              have HL7 := Lib.hid hl7
              obtain ⟨t, ht⟩ : ∃ t, t = firstN s2 := ⟨_, rfl⟩
              rw [← ht] at HF7 HFA1
              clear d0 d1 d2 d3 d4 d5 c9 H6 h7 hs2 ht HH2 hl7
              by_cases h64 : t = 64
              · have HT64 := Lib.hid h64
                have t64 : (t == 64) = true := by simp [h64]
                clear h64
                go_wp2_with fail
                (with_reducible refine HF7.out.mono ?_)
                rintro en w8 ⟨rfl, g8⟩
                have HTL := Lib.hid (ntells_any (H7.out.kept g8))
                clear g8 HF7
                go_wp2_with fail
                (with_reducible refine HTL.out.mono ?_)
                rintro en w9 ⟨v9, o9, r9, rfl, h9, hE9⟩
                have H9 := Lib.hid (And.intro h9 hE9)
                clear h9 hE9 HTL
                go_wp2_with fail
                go_ret2
                have e1 : F = s2 := by rw [HFA1.out.1, if_neg HI0.out, if_pos HT64.out]
                have e2 : a = none := by rw [HFA1.out.2, if_neg HI0.out, if_pos HT64.out]
                rw [e1, e2]
                exact ⟨_, o9, r9, rfl, HT.out.trans H9.out.1, _, _, rfl, rfl, H9.out.2⟩
              · have HT64 := Lib.hid h64
                have t64 : (t == 64) = false := by simp [h64]
                clear h64
                go_wp2_with fail
                (with_reducible refine HF7.out.mono ?_)
                rintro en w8 ⟨rfl, g8⟩
                have h8 := H7.out.kept g8
                have HIX := Lib.hid (And.intro (h8.io HT.out.z HI3.out) (h8.bo HT.out.z HD3.out))
                have HB8 := Lib.hid (HBB.out w3 o _ w8 o7 r7 iA il ic dA dl dc h8 HL7.out (fun _ _ => HPN7.out) HIX.out.1 HIX.out.2)
                unfold frV at HB8
                obtain ⟨d0, d1, d2, d3, d4, d5⟩ := cell6 (HBK.out _ _ _ _ h8)
                clear h8 g8 HF7 HIX
                go_wp2_with fail
                (with_reducible refine HB8.out.mono ?_)
                rintro en w9 ⟨v9, o9, r9, rfl, h9, hA9⟩
                have HTL := Lib.hid (ntells_any (NAt.start h9.nd h9.z))
                have H9 := Lib.hid (And.intro h9 hA9)
                clear d0 d1 d2 d3 d4 d5 HB8 h9 hA9
                go_wp2_with fail
                (with_reducible refine HTL.out.mono ?_)
                rintro en wa ⟨va, oa, ra, rfl, ha, hEa⟩
                have HA2 := Lib.hid (And.intro ha hEa)
                clear ha hEa HTL
                go_wp2_with fail
                go_ret2
                have e1 : F = B s2 := by rw [HFA1.out.1, if_neg HI0.out, if_neg HT64.out]
                have e2 : a = A s2 := by rw [HFA1.out.2, if_neg HI0.out, if_neg HT64.out]
                rw [e1, e2]
                exact ⟨_, oa, ra, rfl, HT.out.trans (H9.out.1.trans HA2.out.1), _, _, rfl, AV.told HA2.out.1 H9.out.1.z H9.out.2, HA2.out.2⟩
  · have t1 : (e != 0) = true := by simp [he]
    have t2 : (e == 0) = false := by simp [he]
    have t3 := t2
    repeat ((with_reducible refine wpQuiet_step (fun K hK => ?_)); go_simp; (try (rw [if_neg]; rotate_left; (intro h; cases h))); first | ((with_reducible refine hK _ ?_); clear hK K) | (apply Exists.intro; (with_reducible refine ⟨fun _ => ?_, hK _ ?_⟩); (exact HC1.out _); clear hK K))
    with_reducible refine wpQuiet_nil ?_
    intro _ hw'
    obtain ⟨nq, rfl⟩ := hw'
    obtain ⟨hf1, ha1⟩ := HBAD.out (by unfold goodF; simp [t1, t2, t3])
    have H4 := Lib.hid (H3.out.kept (HFF.out nq))
    clear e1 e2 HFF HFA hI HC1 H3
    generalize F1 nq = w4 at *
    subst hf1 ha1
    go_wp2_with fail
    go_ret2
    refine ⟨_, o, r, rfl, ?_, _, _, rfl, rfl, ?_⟩
    · rw [noEv_same hev]; exact HT.out.trans H4.out
    · rw [hev]; exact Eo.nil _ _ _
/-- where no data comes to the node. -/
theorem nhear3_any (hc : CfgOk c) (h : NAt w0 o0 c i b s w o r) (hi : i < c.nodes) (v : Value) (L : List Int) (hv : BS w w.heap.size v L) (hL : L.length ≤ 100000) (now ms : Int) (h0 : 0 ≤ now) (h1 : now < 1099511627776) (hev : s.ev = []) (hms : -30000 < ms ∧ ms < 30000)
    (hb : -1000000000000000 ≤ s.base ∧ s.base ≤ 1000000000000000) (hp : s.synced = true → i ≠ 0 → s.p ≠ none ∧ s.k ≠ none) (hnd : ¬ ((decF L).2.dst = i ∧ (decF L).2.kind = 1)) :
    Calls Tryz.prog 63 #[.pointer (some ⟨b, 0, none⟩), .int .i64 now, v, .int .i64 ms] w (PHearN w0 o0 c i b (hearN i c s (decF L) now ms id) (ansN i c s (decF L) now ms (backA i (decF L).2 now ms))) := by
  refine nhear2_any hc h hi v L hv hL now ms h0 h1 hev hms hb hp id (backA i (decF L).2 now ms) (decF L) rfl (fun W0 O0 s2 W o' r' iA il ic dA dl dc hN hl hp2 hI hD => ?_)
  by_cases hd : (decF L).2.dst = i
  · have hk1 : (decF L).2.kind ≠ 1 := fun e => hnd ⟨hd, e⟩
    by_cases hk4 : (decF L).2.kind = 4
    · refine (nback_keep hN (decF L).2 iA il ic dA dl dc now ms hd hk4 hp2 (by omega)).mono (fun en w' hpv => ?_)
      obtain ⟨v, e, ha, g⟩ := hpv
      exact ⟨v, o', r', e, hN.kept g, ha⟩
    · refine (nback_none hN (decF L).2 iA il ic dA dl dc now ms (.inr ⟨hk1, hk4⟩)).mono (fun en w' hpv => ?_)
      obtain ⟨e, g⟩ := hpv
      refine ⟨_, o', r', e, hN.kept g, ?_⟩
      unfold backA
      rw [if_neg (fun h => h.2.elim hk1 hk4)]
      rfl
  · refine (nback_none hN (decF L).2 iA il ic dA dl dc now ms (.inl hd)).mono (fun en w' hpv => ?_)
    obtain ⟨e, g⟩ := hpv
    refine ⟨_, o', r', e, hN.kept g, ?_⟩
    unfold backA
    rw [if_neg (fun h => hd h.1)]
    rfl
end
end Go.Proofs.YtnpihllannobgaaGreatDoor
namespace Go.Proofs.YtnpihllannobgaaGreatDoor
set_option linter.unusedVariables false
set_option linter.unusedSimpArgs false
open Go.ChangeShapes Go.WideShapes Go.ChangeAt Go.RowKit

theorem ElB : ElS 91 33 1 24 := ElS.of (z := .slice none 0 0) (by kernel_rfl) (by kernel_rfl) (by decide +kernel) (by decide)
theorem ElA : ElS 86 90 3 40 := ElS.of (z := .agg #[.int .i64 0, .slice none 0 0, .int .i64 0]) (by kernel_rfl) (by kernel_rfl) (by decide +kernel) (by decide)
theorem madeL (z : Array Value) (n : Nat) : (madeCells z n).toList = (List.range n).map (fun k => z[k % z.size]!) := by
  unfold madeCells; simp
theorem made91 (n : Nat) (hn : n ≤ 16) : (madeCells (Value.slice none 0 0).cells (n * 1)).toList = List.replicate n (.slice none 0 0) := by
  rw [madeL]
  have : n = 0 ∨ n = 1 ∨ n = 2 ∨ n = 3 ∨ n = 4 ∨ n = 5 ∨ n = 6 ∨ n = 7 ∨ n = 8 ∨ n = 9 ∨ n = 10 ∨ n = 11 ∨ n = 12 ∨ n = 13 ∨ n = 14 ∨ n = 15 ∨ n = 16 := by omega
  rcases this with rfl | rfl | rfl | rfl | rfl | rfl | rfl | rfl | rfl | rfl | rfl | rfl | rfl | rfl | rfl | rfl | rfl <;> exact rfl
theorem made86 (n : Nat) (hn : n ≤ 16) : (madeCells (Value.agg #[.int .i64 0, .slice none 0 0, .int .i64 0]).cells (n * 3)).toList = (List.replicate n (((0, [], 0), .slice none 0 0) : Snd × Value)).flatMap cellsS := by
  rw [madeL]
  have : n = 0 ∨ n = 1 ∨ n = 2 ∨ n = 3 ∨ n = 4 ∨ n = 5 ∨ n = 6 ∨ n = 7 ∨ n = 8 ∨ n = 9 ∨ n = 10 ∨ n = 11 ∨ n = 12 ∨ n = 13 ∨ n = 14 ∨ n = 15 ∨ n = 16 := by omega
  rcases this with rfl | rfl | rfl | rfl | rfl | rfl | rfl | rfl | rfl | rfl | rfl | rfl | rfl | rfl | rfl | rfl | rfl <;> exact rfl
def ob91 (n : Nat) : Obj := .cells (madeCells (Value.slice none 0 0).cells (n * 1)) 33
def ob86 (n : Nat) : Obj := .cells (madeCells (Value.agg #[.int .i64 0, .slice none 0 0, .int .i64 0]).cells (n * 3)) 90
theorem mk91 (n : Nat) (hn : n ≤ 16) (W : World) : (Instr.makeSlice 91 (.int .i64 (n : Int)) (.int .i64 (n : Int))).run Tryz.prog W = .ok (.slice (some ⟨W.heap.size, 0, none⟩) n n) (W.alloc (ob91 n)) := by
  obtain ⟨i, hi⟩ : ∃ i, Tryz.prog.info? 33 = some i := by obtain ⟨_, i, z, h, _⟩ := ElB; exact ⟨i, h⟩
  have hx : (Tryz.prog.info? 33).map (fun i => (i.zero, i.size, i.bytes)) = some (some (.slice none 0 0), 1, 24) := by kernel_rfl
  rw [hi] at hx
  simp only [Option.map_some, Option.some.injEq, Prod.mk.injEq] at hx
  have := run_make (P := Tryz.prog) W 91 33 i (.slice none 0 0) ElB.1 hi hx.1 .i64 .i64 n n (by omega) (by omega) (by rw [hx.2.2]; omega) (by omega)
  simp only [Int.toNat_natCast, hx.2.1] at this
  exact this
theorem mk86 (n : Nat) (hn : n ≤ 16) (W : World) : (Instr.makeSlice 86 (.int .i64 (n : Int)) (.int .i64 (n : Int))).run Tryz.prog W = .ok (.slice (some ⟨W.heap.size, 0, none⟩) n n) (W.alloc (ob86 n)) := by
  obtain ⟨i, hi⟩ : ∃ i, Tryz.prog.info? 90 = some i := by obtain ⟨_, i, z, h, _⟩ := ElA; exact ⟨i, h⟩
  have hx : (Tryz.prog.info? 90).map (fun i => (i.zero, i.size, i.bytes)) = some (some (.agg #[.int .i64 0, .slice none 0 0, .int .i64 0]), 3, 40) := by kernel_rfl
  rw [hi] at hx
  simp only [Option.map_some, Option.some.injEq, Prod.mk.injEq] at hx
  have := run_make (P := Tryz.prog) W 86 90 i (.agg #[.int .i64 0, .slice none 0 0, .int .i64 0]) ElA.1 hi hx.1 .i64 .i64 n n (by omega) (by omega) (by rw [hx.2.2]; omega) (by omega)
  simp only [Int.toNat_natCast, hx.2.1] at this
  exact this
section
variable {w0 w w' : World} {o0 o o' : Cls} {c : Cfg} {W : Nat} {x x' : WM} {asn : Int} {r r' : WR} {d : Dr} {dr lo ac er da : Value} {S : Nat → Prop}
/-- a row of nothing that goes back. -/
theorem WAt.mkb (h : WAt w0 o0 c W x asn w o r) (hc : c.nodes ≤ 16) (n : Nat) (hn : n ≤ 16) : ∃ o', WAt w0 o0 c W x asn (w.alloc (ob91 n)) o' r ∧ Ext w o o' ∧ Bk (w.alloc (ob91 n)) o' (.slice (some ⟨w.heap.size, 0, none⟩) n n) (List.replicate n none) := by
  have g := Chg.alloc (fun _ => False) w (ob91 n)
  have hsz : (w.alloc (ob91 n)).heap.size = w.heap.size + 1 := by simp
  have e := Ext.cls (w := w) o w.heap.size (cl 16 6) (Nat.le_refl _)
  refine ⟨cls o w.heap.size (cl 16 6), h.other e ((h.z.more g.size).cls _ (by omega)) g hc (fun _ e => e.elim), e, List.replicate n (.slice none 0 0), ?_, fun k hk => by cases hk; exact cls_at _ _ _, by simp, fun i a u ha hu => ?_⟩
  · refine ⟨by simp, .inr ⟨w.heap.size, n, _, by simp, Nat.zero_le _, block_alloc w (ob91 n), by simp, by unfold maxLen; omega, by simp [size_madeCells], ?_⟩⟩
    rw [made91 n hn]; simp
  · rw [List.getElem?_replicate] at ha hu
    split at ha
    · cases ha
      have hu2 : u = .slice none 0 0 := by
        rw [if_pos (by assumption)] at hu
        cases hu; rfl
      subst hu2
      exact rfl
    · cases ha
/-- a row of nothing in the air. -/
theorem WAt.mka (h : WAt w0 o0 c W x asn w o r) (hc : c.nodes ≤ 16) (n : Nat) (hn : n ≤ 16) : ∃ o', WAt w0 o0 c W x asn (w.alloc (ob86 n)) o' r ∧ Ext w o o' ∧ Ao (w.alloc (ob86 n)) o' (.slice (some ⟨w.heap.size, 0, none⟩) n n) (List.replicate n (0, [], 0)) := by
  have g := Chg.alloc (fun _ => False) w (ob86 n)
  have hsz : (w.alloc (ob86 n)).heap.size = w.heap.size + 1 := by simp
  have e := Ext.cls (w := w) o w.heap.size (cl 16 5) (Nat.le_refl _)
  refine ⟨cls o w.heap.size (cl 16 5), h.other e ((h.z.more g.size).cls _ (by omega)) g hc (fun _ e => e.elim), e, List.replicate n ((0, [], 0), .slice none 0 0), ?_, fun k hk => by cases hk; exact cls_at _ _ _, fun p hp => ?_, by simp⟩
  · refine ⟨?_, .inr ⟨w.heap.size, n, _, by simp, Nat.zero_le _, block_alloc w (ob86 n), by simp, by unfold maxLen; omega, by simp [size_madeCells], ?_⟩⟩
    · have h1 := made86 n hn
      rw [← h1]; simp [size_madeCells]
    · rw [made86 n hn, List.take_of_length_le]
      rw [← made86 n hn]; simp [size_madeCells]
  · rw [List.mem_replicate] at hp
    rw [hp.2]; exact BO.nil _ _
/-- an entry of what goes back is set. -/
theorem WAt.setb (h : WAt w0 o0 c W x asn w o r) (hc : c.nodes ≤ 16) {g n cap : Nat} {back : List (Option (List Int))} (hb : Bk w o (.slice (some ⟨g, 0, none⟩) n cap) back) (hg : w0.heap.size ≤ g) (i : Nat) (hi : i < back.length) (a : Option (List Int)) (u : Value) (ha : AV a u w o) :
    WAt w0 o0 c W x asn (w.setCell ⟨g, i, none⟩ u) o r ∧ Bk (w.setCell ⟨g, i, none⟩ u) o (.slice (some ⟨g, 0, none⟩) n cap) (back.set i a) := by
  obtain ⟨vs, h1, h2, h3, h4⟩ := hb
  have hog : o g = cl 16 6 := h2 g rfl
  have G := chg1 w g i u
  have hn : n = vs.length := by
    rcases h1.2 with ⟨e, _⟩ | ⟨g2, c2, _, e, _⟩
    · cases e
    · cases e; rfl
  have n0 : ∀ k, o k = 0 → ¬ (k = g) := fun k hk e => by subst e; rw [hog] at hk; exact cl_ne0 16 6 hk
  refine ⟨h.other (Ext.refl _ _) (h.z.more G.size) G hc (fun k hk => ⟨by rw [hk, hog]; unfold cl; omega, by rw [hk]; exact hg⟩), vs.set i u, ?_, h2, by simp [h3], fun j b v hb hv => ?_⟩
  · rw [List.length_set]
    rw [hn] at h1 ⊢
    exact own_set h1 i u (by omega)
  · rw [List.getElem?_set] at hb hv
    by_cases hj : i = j
    · subst hj
      rw [if_pos rfl, if_pos hi] at hb
      rw [if_pos rfl, if_pos (by omega)] at hv
      cases hb; cases hv
      exact ha.step (Ext.refl _ _) G n0
    · rw [if_neg hj] at hb hv
      exact (h4 j b v hb hv).step (Ext.refl _ _) G n0
end
end Go.Proofs.YtnpihllannobgaaGreatDoor
