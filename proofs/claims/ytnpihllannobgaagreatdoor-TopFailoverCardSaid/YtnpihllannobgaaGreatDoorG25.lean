/- A world's nodes hear. What a node does with an answer. No condition. -/
import Derived.Test.YtnpihllannobgaaGreatDoorG24
import Derived.Test.YtnpihllannobgaaGreatDoorG19
import Derived.Deep.RegionHeld3
namespace Go.Proofs.YtnpihllannobgaaGreatDoor
set_option linter.unusedVariables false
set_option linter.unusedSimpArgs false
open Go.ChangeShapes Go.WideShapes Go.ChangeAt Go.RowKit

/-- events of node i, about nodes that there are. -/
def EvP (i : Nat) (n : Nat) (l : List Ev) : Prop := ∀ e ∈ l, (e.kind = 7 ∨ e.kind = 3 → e.i = i) ∧ (e.kind = 7 → 0 ≤ e.src ∧ e.src < n)
theorem EvP.nil (i n : Nat) : EvP i n [] := fun e he => by cases he
theorem EvP.snoc {i n : Nat} {l : List Ev} (h : EvP i n l) (e : Ev) (h1 : e.kind = 7 ∨ e.kind = 3 → e.i = i) (h2 : e.kind = 7 → 0 ≤ e.src ∧ e.src < n) : EvP i n (l ++ [e]) := fun x hx => by
  rcases List.mem_append.1 hx with hx | hx
  · exact h x hx
  · simp at hx; subst hx; exact ⟨h1, h2⟩
theorem hearsN_evp {i n : Nat} {s : NSt} (h : EvP i n s.ev) (src rk now t : Int) (hs : 0 ≤ src ∧ src < n) : EvP i n (hearsN i s src rk now t).ev ∧ (hearsN i s src rk now t).ev.length ≤ s.ev.length + 2 := by
  refine ⟨?_, hearsN_ev i s src rk now t⟩
  have h1 : EvP i n (hears1N i (heardN s src rk now) src t).ev := by
    unfold hears1N
    split
    · exact EvP.snoc h _ (fun _ => rfl) (fun _ => hs)
    · exact h
  unfold hearsN followsN
  split
  · exact h1
  · exact EvP.snoc h1 _ (fun e => by rcases e with e | e <;> cases e) (fun e => by cases e)
theorem hearN_evp {i : Nat} {c : Cfg} {s : NSt} (hev : s.ev = []) (X : Int × Fr) (now ms : Int) : EvP i c.nodes (hearN i c s X now ms id).ev ∧ (hearN i c s X now ms id).ev.length ≤ 10 := by
  unfold hearN
  by_cases hg : (goodF i c X && (rankF X.2 now).2) = true
  · rw [if_pos hg]
    simp only [Bool.and_eq_true] at hg
    have hsrc : 0 ≤ X.2.src ∧ X.2.src < c.nodes := by
      have := hg.1
      unfold goodF inR at this
      simp only [Bool.and_eq_true, decide_eq_true_eq] at this
      omega
    have h0 : EvP i c.nodes (evN s ⟨1, i, X.2.src, 0, pk0⟩).ev := by
      show EvP i c.nodes (s.ev ++ [_])
      rw [hev]
      exact EvP.snoc (EvP.nil _ _) _ (fun e => by rcases e with e | e <;> cases e) (fun e => by cases e)
    have l0 : (evN s ⟨1, i, X.2.src, 0, pk0⟩).ev.length = 1 := by show (s.ev ++ [_]).length = 1; rw [hev]; rfl
    by_cases hsy : s.synced = true
    · rw [if_pos hsy]
      obtain ⟨k1, k2⟩ := hearsN_evp h0 X.2.src (rankF X.2 now).1 now ms hsrc
      unfold hear2N
      by_cases hi : i = 0
      · rw [if_pos hi]; exact ⟨h0, by show _ ≤ _; unfold id; omega⟩
      · rw [if_neg hi]
        by_cases hf : firstN (hearsN i (evN s ⟨1, i, X.2.src, 0, pk0⟩) X.2.src (rankF X.2 now).1 now ms) = 64
        · rw [if_pos hf]; exact ⟨k1, by omega⟩
        · rw [if_neg hf]; exact ⟨k1, by unfold id; omega⟩
    · rw [if_neg hsy]
      unfold adoptN
      split
      · unfold adopt2N
        have h1 : EvP i c.nodes (evN (adopt1N s X.2.src (rankF X.2 now).1 now) ⟨1, i, X.2.src, 0, pk0⟩).ev := h0
        have h2 : EvP i c.nodes (movesN i (evN (adopt1N s X.2.src (rankF X.2 now).1 now) ⟨1, i, X.2.src, 0, pk0⟩) X.2.src ms).ev := EvP.snoc h1 _ (fun _ => rfl) (fun _ => hsrc)
        refine ⟨EvP.snoc (EvP.snoc h2 _ (fun e => by rcases e with e | e <;> cases e) (fun e => by cases e)) _ (fun e => by rcases e with e | e <;> cases e) (fun e => by cases e), ?_⟩
        show (((s.ev ++ [_]) ++ [_] ++ [_]) ++ [_]).length ≤ 10
        rw [hev]; simp
      · rw [hev]; exact ⟨EvP.nil _ _, by simp⟩
  · rw [if_neg hg, hev]; exact ⟨EvP.nil _ _, by simp⟩
theorem hearF_air (c : Cfg) (d : Dr) (known : List Int) (now : Int) (i : Nat) (x : WM) : (hearF c d known now i x).air = x.air ∧ (hearF c d known now i x).back.length = x.back.length := by
  unfold hearF
  split
  · split
    · exact ⟨rfl, by unfold hear1W; simp⟩
    · exact ⟨rfl, rfl⟩
  · exact ⟨rfl, rfl⟩
theorem iterH_air (c : Cfg) (d : Dr) (known : List Int) (now : Int) (x : WM) : ∀ k, (iter (hearF c d known now) k x).air = x.air ∧ (iter (hearF c d known now) k x).back.length = x.back.length := by
  intro k
  induction k with
  | zero => exact ⟨rfl, rfl⟩
  | succ k ih =>
    obtain ⟨h1, h2⟩ := hearF_air c d known now k (iter (hearF c d known now) k x)
    exact ⟨h1.trans ih.1, h2.trans ih.2⟩
def HearOk (c : Cfg) (d : Dr) (x : WM) (i : Nat) : Prop :=
  ∀ j, heardW c d x i = [j] → (x.snd i).2.1.isEmpty = true →
    (x.nd i).ev = [] ∧ (-1000000000000000 ≤ (x.nd i).base ∧ (x.nd i).base ≤ 1000000000000000) ∧ ((x.nd i).synced = true → i ≠ 0 → (x.nd i).p ≠ none ∧ (x.nd i).k ≠ none) ∧
    (-30000 < msW c d x i j ∧ msW c d x i j < 30000) ∧ ¬ ((decF (x.snd j).2.1).2.dst = i ∧ (decF (x.snd j).2.1).2.kind = 1) ∧ (x.snd j).2.1.length ≤ 100000
section
variable {w0 w w' : World} {o0 o o' : Cls} {c : Cfg} {W : Nat} {x x' : WM} {asn : Int} {r r' : WR} {d : Dr} {dr lo ac er da : Value} {S : Nat → Prop}
theorem WAt.cong (h : WAt w0 o0 c W x asn w o r) (hn : x'.nodes = x.nodes) (hb : x'.bound = x.bound) (he : x'.ev = x.ev) : WAt w0 o0 c W x' asn w o r := by
  obtain ⟨⟨a1, a2, a3, a4, a5, a6, a7, a8, a9, aa, ab, ac, ad⟩, z, e, g⟩ := h
  exact ⟨⟨a1, a2, a3, a4, a5, a6, by rw [hb]; exact a7, a8, a9, aa, by rw [he]; exact ab, by rw [hn]; exact ac, fun i hi => by
    obtain ⟨b, q, h1, h2⟩ := ad i hi
    refine ⟨b, q, h1, ?_⟩
    unfold WM.nd at h2 ⊢
    rw [hn]; exact h2⟩, z, e, g⟩
theorem AV.shape {a : Option (List Int)} {v : Value} (h : AV a v w o) : ∃ A n cp, v = .slice A n cp := by
  cases a with
  | none => exact ⟨_, _, _, h⟩
  | some l => obtain ⟨⟨A, cp, e, _⟩, _⟩ := h; exact ⟨_, _, _, e⟩
theorem Bk.fr {g n cap : Nat} {back : List (Option (List Int))} (h : Bk w o (.slice (some ⟨g, 0, none⟩) n cap) back) (k : Nat) : w.frozen? ⟨g, k, none⟩ = false := by
  obtain ⟨vs, h1, _⟩ := h
  rcases h1.2 with ⟨e, _⟩ | ⟨g2, c2, cur, e, _, hb2, _⟩
  · cases e
  · cases e; exact frozen_of_block hb2 k
theorem ty59 : Tryz.prog.underlying 59 = some (.map 3 33) := by kernel_rfl
theorem z33 (w : World) : (zeroValue 33).run Tryz.prog w = .ok (.slice none 0 0) w := by kernel_rfl
set_option maxRecDepth 100000 in
set_option maxHeartbeats 16000000 in
theorem whear_any (hc : CfgOk c) (h : WAt w0 o0 c W x asn w o r) (ha : 0 ≤ asn ∧ asn < 1099511627776) (k i' t : Int) (hs : So w o d dr lo ac er da) (av kv : Value) (known : List Int) (hair : Ao w o av x.air) (hal : x.air.length = c.nodes)
    (hkv : RV VI w o kv known ∧ known.length = c.nodes ∧ ∀ z ∈ known, -1 ≤ z ∧ z ≤ 1000000000000) (hoff : ∀ j, OffOk (x.snd j).2.2) (hok : ∀ q, q < c.nodes → HearOk c d (iter (hearF c d known asn) q { x with back := List.replicate c.nodes none }) q)
    (hev : ∀ q, q ≤ c.nodes → (iter (hearF c d known asn) q { x with back := List.replicate c.nodes none }).ev.length ≤ 100000) :
    Calls Tryz.prog 34 #[VP W, stpV k i' t dr lo ac er da, av, kv] w (PW w0 o0 c W (iter (hearF c d known asn) c.nodes { x with back := List.replicate c.nodes none }) asn r
      (fun v w' o' => Bk w' o' v (iter (hearF c d known asn) c.nodes { x with back := List.replicate c.nodes none }).back)) := by
  have hn0 := hc.n0
  have hn1 := hc.n1
  have HSO := Lib.hid hs
  obtain ⟨dA, dc, hdr, _⟩ := hs.drift
  obtain ⟨lA, lc, hlo, _⟩ := hs.lost
  obtain ⟨aA, acp, hac, _⟩ := hs.acks
  obtain ⟨eA, ec, her, _⟩ := hs.err
  obtain ⟨xA, xn, xc, hda⟩ := hs.da
  obtain ⟨dn, hdn⟩ : ∃ n, n = d.drift.length := ⟨_, rfl⟩
  obtain ⟨ln, hln⟩ : ∃ n, n = d.lost.length := ⟨_, rfl⟩
  obtain ⟨an, han⟩ : ∃ n, n = d.acks.length := ⟨_, rfl⟩
  obtain ⟨en, hen⟩ : ∃ n, n = d.err.length := ⟨_, rfl⟩
  rw [← hdn] at hdr
  rw [← hln] at hlo
  rw [← han] at hac
  rw [← hen] at her
  subst hdr hlo hac her hda
  obtain ⟨ag, acap, hav, _⟩ := hair.val (by omega)
  rw [hal] at hav
  subst hav
  obtain ⟨kA, kc, hke, _⟩ := hkv.1
  rw [hkv.2.1] at hke
  subst hke
  have H := Lib.hid h
  have HAIR := Lib.hid (And.intro hair hal)
  have HKV := Lib.hid hkv
  have HOFF := Lib.hid hoff
  have HOK := Lib.hid hok
  have HEV := Lib.hid hev
  obtain ⟨lg, lcap, hlv, hlc⟩ := h.rowval (by omega)
  have HLC := Lib.hid (And.intro hlv hlc)
  have ga := Chg.alloc (fun _ => False) w (.cells #[.int .i64 k, .int .i64 i', .int .i64 t, .slice dA dn dc, .slice lA ln lc, .slice aA an acp, .slice eA en ec, .slice xA xn xc] 35)
  have hba := block_alloc w (.cells #[.int .i64 k, .int .i64 i', .int .i64 t, .slice dA dn dc, .slice lA ln lc, .slice aA an acp, .slice eA en ec, .slice xA xn xc] 35)
  have c9a : (w.alloc (.cells #[.int .i64 k, .int .i64 i', .int .i64 t, .slice dA dn dc, .slice lA ln lc, .slice aA an acp, .slice eA en ec, .slice xA xn xc] 35)).cell? ⟨W, 9, none⟩ = some (.slice (some ⟨lg, 0, none⟩) c.nodes lcap) := by rw [← hlv]; exact (h.kept hn1 ga).cell 9
  have HB := Lib.hid (And.intro hba (h.z _ (Nat.le_refl _)))
  have HA := Lib.hid (And.intro (h.kept hn1 ga) ga)
  obtain ⟨X0, hX0⟩ : ∃ X0 : WM, X0 = { x with back := List.replicate c.nodes none } := ⟨_, rfl⟩
  rw [← hX0] at HOK HEV ⊢
  have HX0 := Lib.hid hX0
  obtain ⟨F, hF⟩ : ∃ F, F = iter (hearF c d known asn) c.nodes X0 := ⟨_, rfl⟩
  rw [← hF]
  have HF := Lib.hid hF
  have HC := Lib.hid hc
  have hmk := mk91 c.nodes hn1
  have c9b := cell_al c9a (ob91 c.nodes)
  clear h hs hdn hln han hen hair hal hkv hoff hok hev hlv hlc ga hba hX0 hF
  unfold VP stpV
  go_enter Tryz.func34, Tryz.ntmps34
  go_wp2_with fail
  generalize hw1 : w.alloc (.cells #[.int .i64 k, .int .i64 i', .int .i64 t, .slice dA dn dc, .slice lA ln lc, .slice aA an acp, .slice eA en ec, .slice xA xn xc] 35) = w1 at *
  obtain ⟨sb, hsb⟩ : ∃ sb, sb = w.heap.size := ⟨_, rfl⟩
  rw [← hsb] at HB ⊢
  have hsz1 : w1.heap.size = w.heap.size + 1 := by rw [← hw1]; simp
  obtain ⟨o2, hA2, hE2, hB2⟩ := (WAt.start HA.out.1.wd HA.out.1.z).mkb hn1 c.nodes hn1
  have HAI := Lib.hid (show Ao w1 o (.slice (some ⟨ag, 0, none⟩) c.nodes acap) x.air from HAIR.out.1.step (Ext.refl _ _) HA.out.2 (fun k hk e => e))
  have HSS := Lib.hid (HSO.out.step (Ext.refl _ _) HA.out.2 (fun _ _ e => e))
  have HKS := Lib.hid (HKV.out.1.step (Ext.refl _ _) HA.out.2 (fun _ _ e => e))
  have HA2 := Lib.hid hA2
  have hsz2 : w1.heap.size = sb + 1 := by rw [hsz1, hsb]
  rw [hsz2] at hB2
  have HB2 := Lib.hid hB2
  generalize hw2 : w1.alloc (ob91 c.nodes) = w2 at *
  obtain ⟨bg, hbg⟩ : ∃ bg, bg = sb + 1 := ⟨_, rfl⟩
  rw [← hbg] at HB2 ⊢
  have HBG := Lib.hid (show bg = w1.heap.size from hbg.trans hsz2.symm)
  clear hsz2
  clear hsb hsz1 hw1 hw2 hbg hA2 hE2 hB2 c9a c9b
  go_loopw [28] (fun i wr => ∃ (q : Nat), q ≤ c.nodes ∧ i = .int .i64 q ∧ ∃ o' r', WAt w1 o c W (iter (hearF c d known asn) q X0) asn wr o' r' ∧ r.same r' ∧ Bk wr o' (.slice (some ⟨bg, 0, none⟩) c.nodes c.nodes) (iter (hearF c d known asn) q X0).back) (fun i _ => c.nodes - (intOf i).toNat)
  case atStart =>
    refine ⟨0, by omega, rfl, o2, r, HA2.out.cong (by rw [HX0.out]; rfl) (by rw [HX0.out]; rfl) (by rw [HX0.out]; rfl), WR.same.refl r, ?_⟩
    show Bk _ _ _ X0.back
    rw [HX0.out]; exact HB2.out
  case round =>
    obtain ⟨q, hq, rfl, o3, r3, hA, hsm, hBk⟩ := hrel
    obtain ⟨X, hX⟩ : ∃ X, X = iter (hearF c d known asn) q X0 := ⟨_, rfl⟩
    rw [← hX] at hA hBk
    obtain ⟨hXa, hXb⟩ : X.air = x.air ∧ X.back.length = c.nodes := by
      obtain ⟨h1, h2⟩ := iterH_air c d known asn X0 q
      rw [hX, h1, h2, HX0.out]
      exact ⟨rfl, by simp⟩
    by_cases hlt : q < c.nodes
    · have hokq := HOK.out q hlt
      rw [← hX] at hokq
      have hnx : iter (hearF c d known asn) (q + 1) X0 = hearF c d known asn q X := by rw [hX]; rfl
      have HNX := Lib.hid hnx
      have HEQ := Lib.hid (show X.ev.length ≤ 100000 from by rw [hX]; exact HEV.out q (by omega))
      obtain ⟨b, nr, hbs, hN⟩ := hA.get q hlt
      obtain ⟨g2, cap2, hg2, hrc⟩ := hA.rowval (by omega)
      have hbc := hrc q b hbs
      rw [hsm.1, HLC.out.1] at hg2
      cases hg2
      have i1 : (q : Int) < (c.nodes : Int) := by omega
      have hAo := hA.air HAI.out
      obtain ⟨ag2, acap2, hav2, haat⟩ := hAo.val (by rw [HAIR.out.2]; omega)
      rw [HAIR.out.2] at hav2 haat
      cases hav2
      obtain ⟨jA, jc, a0, a1, a2, abo⟩ := haat q hlt
      obtain ⟨jn, hjn⟩ : ∃ n, n = (x.air.getD q (0, [], 0)).2.1.length := ⟨_, rfl⟩
      rw [← hjn] at a1
      have hsnd : X.snd q = x.air.getD q (0, [], 0) := by unfold WM.snd; rw [hXa]
      have hemp : (X.snd q).2.1.isEmpty = decide (jn = 0) := by
        rw [hsnd, hjn]
        cases (x.air.getD q (0, [], 0)).2.1 <;> simp
      have HEMP := Lib.hid hemp
      have HQA := Lib.hid hA
      have HQB := Lib.hid hBk
      have HQX := Lib.hid (And.intro hXa hXb)
      have HQN := Lib.hid (And.intro hbs hN)
      have HQS := Lib.hid hsm
      have HQO := Lib.hid hokq
      have HQC := Lib.hid haat
      unfold VP at hbc
      clear hX hA hBk hXa hXb hnx hbs hN hrc hAo haat hjn hsnd hemp hsm hokq abo a0 a2
      by_cases h0 : jn = 0
      · have t0 : decide (0 < (jn : Int)) = false := by simp; omega
        have t00 : ¬ 0 < jn := by omega
        have T0 := Lib.hid h0
        clear h0
        have c12 : wr.cell? ⟨W, 12, none⟩ = some (.map (some r3.inj)) := HQA.out.cell 12
        have hlk : (Instr.lookup 59 (.map (some r3.inj)) (.int .i64 (q : Int)) false).run Tryz.prog wr = .ok (.slice none 0 0) wr := HQA.out.wd.inj.lookup1 ty59 ty3 (z33 wr) (q : Int)
        have hb1 := Chg.keep HQA.out.chg HB.out.1 (fun e => e.1 HB.out.2)
        obtain ⟨d0, d1, d2, d3, d4, d5, d6, d7⟩ := cell8 hb1
        have hhd := wheard_any (d := d) hc HQA.out k i' t (HQA.out.so HSS.out) (.slice (some ⟨ag, 0, none⟩) c.nodes acap) (by rw [HQX.out.1]; exact HQA.out.air HAI.out) (by rw [HQX.out.1]; exact HAIR.out.2) q hlt (fun j => by
          have := HOFF.out j; unfold WM.snd at this ⊢; rw [HQX.out.1]; exact this)
        unfold VP stpV at hhd
        have HHD := Lib.hid hhd
        have hHL : HeardL c d X q c.nodes = (heardW c d X q).map (fun (j : Nat) => (j : Int)) := rfl
        have HHL := Lib.hid hHL
        have HB1 := Lib.hid hb1
        clear hhd hHL hb1
        go_wp2_with fail
        (with_reducible refine HHD.out.mono ?_)
        rintro en2 w3 ⟨v, rfl, hO, hG⟩
        rw [HHL.out, List.length_map] at hO
        have HA3 := Lib.hid (HQA.out.kept hn1 hG)
        have HB3 := Lib.hid (HQB.out.step (Ext.refl _ _) hG (fun _ _ e => e))
        have HG3 := Lib.hid hG
        clear hG d0 d1 d2 d3 d4 d5 d6 d7 c12 hlk HHD
        cases hhw : heardW c d X q with
        | nil =>
          rw [hhw] at hO
          have hfl : hearF c d known asn q X = X := by unfold hearF; rw [HEMP.out, if_pos (by have := T0.out; simp [this]), hhw]
          obtain ⟨vA, vc, rfl⟩ : ∃ A cp, v = .slice A 0 cp := by
            rcases own_val hO with ⟨e, _⟩ | ⟨g, cap, e, _⟩
            · exact ⟨_, _, e⟩
            · exact ⟨_, _, e⟩
          have HFL := Lib.hid (HNX.out.trans hfl)
          clear hO hfl hhw
          have heq : (binOp .eql 33 (.slice none 0 0) (.slice none 0 0)).run Tryz.prog w3 = .ok (.bool true) w3 := by kernel_rfl
          go_wp2_with fail
          go_roundw
          case measure => simp [intOf]; omega
          case rel =>
            refine ⟨q + 1, by omega, by go_num, o3, r3, ?_, HQS.out, ?_⟩
            · rw [HFL.out]; exact HA3.out
            · rw [HFL.out]; exact HB3.out
        | cons j rest =>
          cases rest with
          | cons j2 rest2 =>
            rw [hhw] at hO
            have hfl : hearF c d known asn q X = X := by unfold hearF; rw [HEMP.out, if_pos (by have := T0.out; simp [this]), hhw]
            obtain ⟨vn, hvn⟩ : ∃ n, n = (j :: j2 :: rest2).length := ⟨_, rfl⟩
            have hvn2 : 1 < vn := by rw [hvn]; simp
            rw [← hvn] at hO
            obtain ⟨vA, vc, rfl⟩ : ∃ A cp, v = .slice A vn cp := by
              rcases own_val hO with ⟨e, h0, _⟩ | ⟨g, cap, e, _⟩
              · omega
              · exact ⟨_, _, e⟩
            have HFL := Lib.hid (HNX.out.trans hfl)
            have t2 : decide (1 < (vn : Int)) = true := by simp; omega
            clear hO hfl hhw hvn
            go_wp2_with fail
            go_roundw
            case measure => simp [intOf]; omega
            case rel =>
              refine ⟨q + 1, by omega, by go_num, o3, r3, ?_, HQS.out, ?_⟩
              · rw [HFL.out]; exact HA3.out
              · rw [HFL.out]; exact HB3.out
          | nil =>
            rw [hhw] at hO
            have hfl : hearF c d known asn q X = hear1W c d known asn q j X := by unfold hearF; rw [HEMP.out, if_pos (by have := T0.out; simp [this]), hhw]
            obtain ⟨vg, vc, hve⟩ : ∃ g cp, v = .slice (some ⟨g, 0, none⟩) 1 cp := by
              rcases own_val hO with ⟨e, h0, _⟩ | ⟨g, cap, e, _⟩
              · simp at h0
              · exact ⟨g, _, e⟩
            subst hve
            have cj : w3.cell? ⟨vg, 0, none⟩ = some (.int .i64 (j : Int)) := own_cell hO 0 _ rfl
            have HFL := Lib.hid (HNX.out.trans hfl)
            have hjm : j < c.nodes ∧ hearsB c d X q j = true := by
              have : j ∈ heardW c d X q := by rw [hhw]; simp
              unfold heardW at this
              rw [List.mem_filter, List.mem_range] at this
              exact this
            obtain ⟨hjn, hjb⟩ := hjm
            have hjq : ¬ j = q := by
              intro e
              subst e
              unfold hearsB at hjb
              simp only [Bool.and_eq_true] at hjb
              have h1 := hjb.1.1
              unfold bitW at h1
              simp only [Bool.and_eq_true, decide_eq_true_eq] at h1
              have h2 : c.near[j]? = some (atL c.near j) := by
                unfold atL
                rw [List.getD_eq_getElem?_getD, List.getElem?_eq_getElem (by rw [hc.near]; exact hlt)]; rfl
              have h3 := (hc.nearb j _ h2).2.2.2
              omega
            have tj : ((j : Int) != (q : Int)) = true := by simp; omega
            have hok := HQO.out j hhw (by rw [HEMP.out]; have := T0.out; simp [this])
            obtain ⟨k1, k2, k3, k4, k5, k6⟩ := hok
            obtain ⟨jbA, jbc, j0, j1, j2, jbo⟩ := HQC.out j hjn
            obtain ⟨qbA, qbc, q0, q1, q2, qbo⟩ := HQC.out q hlt
            have hsj : X.snd j = x.air.getD j (0, [], 0) := by unfold WM.snd; rw [HQX.out.1]
            have hsq : X.snd q = x.air.getD q (0, [], 0) := by unfold WM.snd; rw [HQX.out.1]
            rw [← hsj] at j1 j2 jbo
            rw [← hsq] at q2
            obtain ⟨L, hL⟩ : ∃ L, L = (X.snd j).2.1 := ⟨_, rfl⟩
            rw [← hL] at k5 k6 jbo j1
            obtain ⟨jl, hjl⟩ : ∃ n, n = L.length := ⟨_, rfl⟩
            rw [← hjl] at j1 jbo
            obtain ⟨oq, hoq⟩ : ∃ z, z = (X.snd q).2.2 := ⟨_, rfl⟩
            obtain ⟨oj, hoj⟩ : ∃ z, z = (X.snd j).2.2 := ⟨_, rfl⟩
            rw [← hoq] at q2
            rw [← hoj] at j2
            obtain ⟨ms, hms⟩ : ∃ m, m = meas oq oj (atL d.err q) c.err := ⟨_, rfl⟩
            have hmsw : msW c d X q j = ms := by unfold msW; rw [← hoq, ← hoj, hms]
            rw [hmsw] at k4
            have hfl2 : hear1W c d known asn q j X = { WM.tells c known (X.put q (noEv (hearN q c (X.nd q) (decF L) asn ms id))) (hearN q c (X.nd q) (decF L) asn ms id).ev with back := X.back.set q (ansN q c (X.nd q) (decF L) asn ms (backA q (decF L).2 asn ms)) } := by
              unfold hear1W; rw [← hL, hmsw]
            have HFL := Lib.hid (HFL.out.trans hfl2)
            have hgd := HG3.out.trans (Chg.drew _ w3)
            have hNd := HQN.out.2.kept hgd
            have HHR := Lib.hid (nhear3_any hc (NAt.start hNd.nd hNd.z) hlt (.slice jbA jl jbc) L ((jbo.keep hgd (fun _ _ e => e)).bs) k6 asn ms ha.1 ha.2 k1 k4 k2 k3 k5)
            have HEVP := Lib.hid (hearN_evp (i := q) (c := c) k1 (decF L) asn ms)
            obtain ⟨S, hS⟩ : ∃ S, S = hearN q c (X.nd q) (decF L) asn ms id := ⟨_, rfl⟩
            obtain ⟨a, haa⟩ : ∃ a, a = ansN q c (X.nd q) (decF L) asn ms (backA q (decF L).2 asn ms) := ⟨_, rfl⟩
            rw [← hS, ← haa] at HHR HFL
            rw [← hS] at HEVP
            have HAT := Lib.hid (show Calls Tryz.prog 54 #[.slice eA en ec, .int .i64 q] w3.drew (fun e w'' => e = .returned (.int .i64 (atL d.err q)) ∧ w'' = w3.drew) from
              at54_any (o := o3) _ _ q ((HQA.out.so HSS.out).err.keep (S := fun _ => False) hgd (fun _ _ e => e)))
            have HMS := Lib.hid (show Calls Tryz.prog 64 #[.int .i64 oq, .int .i64 oj, .int .i64 (atL d.err q), .int .i64 c.err] w3.drew (fun e w'' => e = .returned (.int .i64 ms) ∧ w'' = w3.drew) from by
              rw [hms]; exact measure_any oq oj (atL d.err q) c.err w3.drew)
            obtain ⟨aq, haq⟩ : ∃ z, z = atL d.err q := ⟨_, rfl⟩
            rw [← haq] at HAT HMS
            have kk : ∀ {p : Addr} {v : Value}, wr.cell? p = some v → w3.cell? p = some v := fun {p v} hp => by rw [HG3.out.cell (lt_of_cell hp) (fun e => e), hp]
            have j1' := kk j1
            have j2' := kk j2
            have q2' := kk q2
            obtain ⟨e0, e1, e2, e3, e4, e5, e6, e7⟩ := cell8 (Chg.keep HG3.out HB1.out (fun e => e))
            have c10 : w3.cell? ⟨W, 10, none⟩ = some (.int .i64 asn) := HA3.out.cell 10
            have c4 : w3.cell? ⟨W, 4, none⟩ = some (.int .i64 c.err) := HA3.out.cell 4
            have i3 : (j : Int) < (c.nodes : Int) := by omega
            have HAD := Lib.hid (HA3.out.kept hn1 (Chg.drew _ w3))
            have HBD := Lib.hid (HB3.out.step (Ext.refl _ _) (Chg.drew (fun _ => False) w3) (fun _ _ e => e))
            have HQB2 := Lib.hid HQN.out.1
            have HOQ := Lib.hid (show oq = (x.air.getD q (0, [], 0)).2.2 from by rw [hoq, hsq])
            have HOJ := Lib.hid (show oj = (x.air.getD j (0, [], 0)).2.2 from by rw [hoj, hsj])
            clear hhw hjb k1 k2 k3 k4 k5 k6 j0 j1 j2 jbo q0 q1 q2 qbo hsj hsq hL hjl hoq hoj hms hmsw hfl2 hgd hNd hS haa haq HA3 HB3 HQN HQC kk
            go_wp2_with fail
            have HSW := Lib.hid (show ∀ W5 o5 r5 X5, WAt w1 o c W X5 asn W5 o5 r5 → ((fun W' => W'.cell? ⟨W, 10, none⟩ = some (.int .i64 asn) ∧ W'.cell? ⟨ag, q * 3 + 2, none⟩ = some (.int .i64 oq) ∧ W'.cell? ⟨ag, j * 3 + 2, none⟩ = some (.int .i64 oj) ∧ W'.cell? ⟨sb, 6, none⟩ = some (.slice eA en ec) ∧ W'.cell? ⟨W, 4, none⟩ = some (.int .i64 c.err)) : World → Prop) W5 from fun W5 o5 r5 X5 h5 => by
              obtain ⟨g5, c5, e5, h5a⟩ := (h5.air HAI.out).val (by rw [HAIR.out.2]; omega)
              rw [HAIR.out.2] at e5 h5a
              cases e5
              obtain ⟨_, _, _, _, z2, _⟩ := h5a q hlt
              obtain ⟨_, _, _, _, z3, _⟩ := h5a j hjn
              have hb5 := Chg.keep h5.chg HB.out.1 (fun e => e.1 HB.out.2)
              exact ⟨h5.cell 10, by rw [HOQ.out]; exact z2, by rw [HOJ.out]; exact z3, by rw [cell_of_block hb5]; rfl, h5.cell 4⟩)
            have HS0 := Lib.hid (HSW.out _ _ _ _ HAD.out)
            have s0 : ((fun W' => W'.cell? ⟨W, 10, none⟩ = some (.int .i64 asn) ∧ W'.cell? ⟨ag, q * 3 + 2, none⟩ = some (.int .i64 oq) ∧ W'.cell? ⟨ag, j * 3 + 2, none⟩ = some (.int .i64 oj) ∧ W'.cell? ⟨sb, 6, none⟩ = some (.slice eA en ec) ∧ W'.cell? ⟨W, 4, none⟩ = some (.int .i64 c.err)) : World → Prop) w3.drew := HS0.out
            go_region_held3 (fun W' => W'.cell? ⟨W, 10, none⟩ = some (.int .i64 asn) ∧ W'.cell? ⟨ag, q * 3 + 2, none⟩ = some (.int .i64 oq) ∧ W'.cell? ⟨ag, j * 3 + 2, none⟩ = some (.int .i64 oj) ∧ W'.cell? ⟨sb, 6, none⟩ = some (.slice eA en ec) ∧ W'.cell? ⟨W, 4, none⟩ = some (.int .i64 c.err))
              (first | exact HS0.out | exact HS5.out)
              (first
              | (go_at_call 54; refine HAT.out.mono ?_; rintro en1 wx ⟨rfl, rfl⟩)
              | (go_at_call 64; refine HMS.out.mono ?_; rintro en1 wx ⟨rfl, rfl⟩)
              | (go_at_call 63; refine HHR.out.mono ?_; rintro en1 w5 ⟨v5, o5, nr5, rfl, hN5, bv, ev, rfl, hbv, hE5⟩
                 obtain ⟨bA, bn, bcp, rfl⟩ := hbv.shape
                 have hA5 := HAD.out.node hn1 hlt HQB2.out hN5
                 have HS5 := Lib.hid (HSW.out _ _ _ _ hA5)
                 have HA5 := Lib.hid (And.intro hA5 (And.intro hN5 (And.intro hbv hE5)))
                 clear hA5 hN5 hbv hE5))
            all_goals
              have HT := Lib.hid (wtells_any hc (WAt.start HA5.out.1.wd HA5.out.1.z) ev S.ev (cl q 9) HA5.out.2.2.2 ⟨by unfold cl; omega, by unfold cl; omega, by unfold cl; omega⟩ (.slice kA c.nodes kc) known
                (.inl ⟨HKS.out.step HA5.out.1.ext HA5.out.1.chg (fun k hk hs => hs.1 hk), HKV.out.2⟩) (fun e he => by
                  obtain ⟨p1, p2⟩ := HEVP.out.1 e he
                  exact ⟨fun h => by have := p1 h; omega, fun h => p2 h⟩) (by have := HEVP.out.2; omega) HEQ.out)
              unfold VP at HT
              clear HHR HAT HMS HS0 s0 c10 c4 e0 e1 e2 e3 e4 e5 e6 e7 j1' j2' q2' HSW
              go_wp2_with fail
              (with_reducible refine HT.out.mono ?_)
              rintro en6 w6 ⟨v6, o6, r6, rfl, hA6, hs6, rfl⟩
              have hB6 := hA6.bck (HBD.out.step HA5.out.2.1.ext HA5.out.2.1.chg (off_nd q (by omega) 6 (by omega)))
              have hAV6 := HA5.out.2.2.1.step hA6.ext hA6.chg (fun k hk hs => hs.1 hk)
              have hA16 := HA5.out.1.trans hA6
              have hset := hA16.setb hn1 hB6 (by rw [HBG.out]; exact Nat.le_refl _) q (by rw [HQX.out.2]; exact hlt) a (.slice bA bn bcp) hAV6
              obtain ⟨bg2, bcap2, be2, hbcell⟩ := hB6.val (by rw [HQX.out.2]; omega)
              rw [HQX.out.2] at be2 hbcell
              cases be2
              obtain ⟨zA, zn, zcp, hzc, _⟩ := hbcell q hlt
              have hzf := hB6.fr q
              have HSET := Lib.hid hset
              have HS6 := Lib.hid (HQS.out.trans hs6)
              clear hB6 hAV6 hA16 hset hbcell hA6 hs6 HA5 HT HBD HAD
              go_wp2_with fail
              go_roundw
              case measure => simp [intOf]; omega
              case rel =>
                refine ⟨q + 1, by omega, by go_num, o6, r6, ?_, HS6.out, ?_⟩
                · rw [HFL.out]; exact HSET.out.1.cong rfl rfl rfl
                · rw [HFL.out]; exact HSET.out.2
      · have t0 : decide (0 < (jn : Int)) = true := by simp; omega
        have t00 : 0 < jn := by omega
        have T0 := Lib.hid h0
        clear h0
        go_wp2_with fail
        go_roundw
        case measure => simp [intOf]; omega
        case rel =>
          refine ⟨q + 1, by omega, by go_num, o3, r3, ?_, HQS.out, ?_⟩
          · rw [HNX.out]; unfold hearF; rw [HEMP.out, if_neg (by have := T0.out; simp [this])]; exact HQA.out
          · rw [HNX.out]; unfold hearF; rw [HEMP.out, if_neg (by have := T0.out; simp [this])]; exact HQB.out
    · obtain rfl : q = c.nodes := by omega
      go_wp2_with fail
      go_ret
      have hF : F = X := HF.out.trans hX.symm
      rw [hF]
      exact ⟨_, o3, r3, rfl, HA.out.1.trans hA, hsm, hBk⟩
end
end Go.Proofs.YtnpihllannobgaaGreatDoor
namespace Go.Proofs.YtnpihllannobgaaGreatDoor
set_option linter.unusedVariables false
set_option linter.unusedSimpArgs false
open Go.ChangeShapes Go.WideShapes Go.ChangeAt Go.RowKit

section
variable {w0 w w' : World} {o0 o o' : Cls} {c : Cfg} {i b : Nat} {s s' : NSt} {r r' : NR}
def doneN (i : Nat) (s : NSt) (f : Fr) (tt rk now : Int) : NSt := if i ≠ 0 ∧ firstN s = tt then hearsN i s tt rk now (ticksF f) else s
set_option maxRecDepth 100000 in
set_option maxHeartbeats 8000000 in
theorem ndone_any (h : NAt w0 o0 c i b s w o r) (f : Fr) (iA : Option Addr) (il ic : Nat) (dA : Option Addr) (dl dc : Nat) (tt rk now : Int) (hI : IeO w o (.slice iA il ic) f.ies) (hE : f.ies.length ≤ 100000) (hll : ∀ e ∈ f.ies, e.list.length ≤ 100000)
    (hsk : s.skind ≠ 1) (hn : s.ev.length ≤ 900) (hb : -1000000000000000 ≤ s.base ∧ s.base ≤ 1000000000000000) (hk : s.p ≠ none → s.k ≠ none) (hs : 0 ≤ tt ∧ tt ≤ 15) (hm : tt ≠ i) (hr : 0 ≤ rk ∧ rk ≤ 255) (ht : 0 ≤ now) :
    Calls Tryz.prog 67 #[.pointer (some ⟨b, 0, none⟩), frV f (.slice iA il ic) (.slice dA dl dc), .int .i64 tt, .int .i64 rk, .int .i64 now] w (PN w0 o0 c i b (doneN i s f tt rk now) (fun v _ _ => v = .tuple #[])) := by
  obtain ⟨F, hF⟩ : ∃ F, F = doneN i s f tt rk now := ⟨_, rfl⟩
  rw [← hF]
  have HF := Lib.hid hF
  unfold frV
  have hba := block_alloc w (.cells #[.int .i64 f.kind, .int .i64 f.src, .int .i64 f.dst, .int .i64 f.seq, .slice iA il ic, .slice dA dl dc] 71)
  have ga := Chg.alloc (fun _ => False) w (.cells #[.int .i64 f.kind, .int .i64 f.src, .int .i64 f.dst, .int .i64 f.seq, .slice iA il ic, .slice dA dl dc] 71)
  have HB := Lib.hid hba
  have H := Lib.hid (h.kept ga)
  have HI := Lib.hid (hI.keep ga (fun _ _ e => e))
  have t1 : (s.skind == 1) = false := by simpa using hsk
  have HFD := Lib.hid (fun W (g : Chg (fun _ => False) (w.alloc (.cells #[.int .i64 f.kind, .int .i64 f.src, .int .i64 f.dst, .int .i64 f.seq, .slice iA il ic, .slice dA dl dc] 71)) W) => find_any W o (.slice iA il ic) f.ies 2 (HI.out.keep g (fun _ _ e => e)) hE hll)
  clear h hba ga hF hI hE hll
  obtain ⟨d0, d1, d2, d3, d4, d5⟩ := cell6 HB.out
  have c24 : (w.alloc (.cells #[.int .i64 f.kind, .int .i64 f.src, .int .i64 f.dst, .int .i64 f.seq, .slice iA il ic, .slice dA dl dc] 71)).cell? ⟨b, 24, none⟩ = some (.int .i64 s.skind) := H.out.cell 24
  have c9 : (w.alloc (.cells #[.int .i64 f.kind, .int .i64 f.src, .int .i64 f.dst, .int .i64 f.seq, .slice iA il ic, .slice dA dl dc] 71)).cell? ⟨b, 9, none⟩ = some (.int .i64 i) := H.out.cell 9
  have HN := Lib.hid (nfirst_any H.out)
  by_cases hi : i = 0
  · have i0 : ((i : Int) != 0) = false := by simp [hi]
    have hF := HF.out
    unfold doneN at hF
    rw [if_neg (by simp [hi])] at hF
    have HFF := Lib.hid hF
    clear hF hi
    go_enter Tryz.func67, Tryz.ntmps67
    go_wp2_with fail
    go_end0
    rw [HFF.out]
    exact ⟨_, o, r, rfl, H.out, rfl⟩
  · have i0 : ((i : Int) != 0) = true := by simp [hi]
    obtain ⟨t, ht2⟩ : ∃ t, t = firstN s := ⟨_, rfl⟩
    rw [← ht2] at HN
    have HT := Lib.hid ht2
    clear ht2
    have HI0 := Lib.hid hi
    clear hi
    go_enter Tryz.func67, Tryz.ntmps67
    go_wp2_with fail
    generalize hW : w.alloc (.cells #[.int .i64 f.kind, .int .i64 f.src, .int .i64 f.dst, .int .i64 f.seq, .slice iA il ic, .slice dA dl dc] 71) = w1 at *
    obtain ⟨fb, hfb⟩ : ∃ x, x = w.heap.size := ⟨_, rfl⟩
    rw [← hfb] at d0 d1 d2 d3 d4 d5 HB ⊢
    clear hfb hW
    (with_reducible refine HN.out.mono ?_)
    rintro en w2 ⟨rfl, g2⟩
    have HG2 := Lib.hid g2
    have H2 := Lib.hid (H.out.kept g2)
    have HB2 := Lib.hid (Chg.keep g2 HB.out (fun e => e))
    clear d0 d1 d2 d3 d4 d5 c24 c9 HN g2 HB H
    obtain ⟨d0, d1, d2, d3, d4, d5⟩ := cell6 HB2.out
    by_cases hto : t = tt
    · have t2 : (t == tt) = true := by simp [hto]
      have hF := HF.out
      unfold doneN at hF
      rw [if_pos ⟨HI0.out, by rw [← HT.out, hto]⟩] at hF
      have HFF := Lib.hid hF
      have HP := Lib.hid (show s.p ≠ none from fun e => by
        have h1 := HT.out
        unfold firstN at h1
        rw [e] at h1
        have h2 : t = 64 := h1
        omega)
      have HFD2 := Lib.hid (HFD.out w2 HG2.out)
      obtain ⟨X, hX⟩ : ∃ X, X = (findE f.ies 2).getD el0 := ⟨_, rfl⟩
      have htk : ticksF f = X.ticks := by
        rw [hX]; unfold ticksF
        cases findE f.ies 2 <;> rfl
      obtain ⟨Y, hY⟩ : ∃ Y, Y = (findE f.ies 2).isSome := ⟨_, rfl⟩
      unfold PFind at HFD2
      rw [← hX, ← hY] at HFD2
      rw [htk] at HFF
      clear hto hF hX hY htk HFD
      go_wp2_with fail
      (with_reducible refine HFD2.out.mono ?_)
      rintro en w3 ⟨lv, rfl, hO, hG⟩
      have H3 := Lib.hid (H2.out.kept hG)
      obtain ⟨lA, ln, lc, rfl⟩ : ∃ A n c, lv = .slice A n c := by
        rcases own_val hO with ⟨e, _⟩ | ⟨g, cap, e, _⟩
        · exact ⟨_, _, _, e⟩
        · exact ⟨_, _, _, e⟩
      clear hO hG d0 d1 d2 d3 d4 d5 HB2 H2 HG2 HFD2
      unfold elV
      go_wp2_with fail
      have hgb := Chg.alloc (fun _ => False) w3 (.cells #[.int .i64 X.kind, .int .i64 X.asn, .int .i64 X.rank, .int .i64 X.ticks, .slice lA ln lc] 172)
      have HHE := Lib.hid (nhears_any (H3.out.kept hgb) tt rk now X.ticks hn hb (hk HP.out) HP.out hs hm hr ht)
      obtain ⟨e0, e1, e2, e3, e4⟩ := cell5 (block_alloc w3 (.cells #[.int .i64 X.kind, .int .i64 X.asn, .int .i64 X.rank, .int .i64 X.ticks, .slice lA ln lc] 172))
      generalize w3.alloc (.cells #[.int .i64 X.kind, .int .i64 X.asn, .int .i64 X.rank, .int .i64 X.ticks, .slice lA ln lc] 172) = w4 at *
      clear hgb
      go_wp2_with fail
      (with_reducible refine HHE.out.mono ?_)
      rintro en w5 ⟨v5, o5, r5, rfl, h5, rfl⟩
      have H5 := Lib.hid h5
      clear h5 HHE e0 e1 e2 e3 e4
      go_wp2_with fail
      go_end0
      rw [HFF.out]
      exact ⟨_, o5, r5, rfl, H5.out, rfl⟩
    · have t2 : (t == tt) = false := by simpa using hto
      have hF := HF.out
      unfold doneN at hF
      rw [if_neg (by rw [← HT.out]; exact fun h => hto h.2)] at hF
      have HFF := Lib.hid hF
      clear hF hto
      go_wp2_with fail
      go_end0
      rw [HFF.out]
      exact ⟨_, o, r, rfl, H2.out, rfl⟩
end
end Go.Proofs.YtnpihllannobgaaGreatDoor
