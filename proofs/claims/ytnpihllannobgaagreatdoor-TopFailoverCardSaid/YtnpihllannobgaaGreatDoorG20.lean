/- A world is told events. No condition. -/
import Derived.Test.YtnpihllannobgaaGreatDoorG19
namespace Go.Proofs.YtnpihllannobgaaGreatDoor
set_option linter.unusedVariables false
set_option linter.unusedSimpArgs false
open Go.ChangeShapes Go.WideShapes Go.ChangeAt Go.RowKit

theorem cell10 {w : World} {b : Nat} {t : TypeId} {v0 v1 v2 v3 v4 v5 v6 v7 v8 v9 : Value} (h : w.heap[b]? = some (.cells #[v0, v1, v2, v3, v4, v5, v6, v7, v8, v9] t (0, 0))) :
    w.cell? ⟨b, 0, none⟩ = some v0 ∧ w.cell? ⟨b, 1, none⟩ = some v1 ∧ w.cell? ⟨b, 2, none⟩ = some v2 ∧ w.cell? ⟨b, 3, none⟩ = some v3 ∧ w.cell? ⟨b, 4, none⟩ = some v4 ∧ w.cell? ⟨b, 5, none⟩ = some v5 ∧ w.cell? ⟨b, 6, none⟩ = some v6 ∧ w.cell? ⟨b, 7, none⟩ = some v7 ∧ w.cell? ⟨b, 8, none⟩ = some v8 ∧ w.cell? ⟨b, 9, none⟩ = some v9 := by
  refine ⟨?_, ?_, ?_, ?_, ?_, ?_, ?_, ?_, ?_, ?_⟩ <;> rw [cell_of_block h] <;> rfl
theorem evAt {w : World} {g cap n : Nat} {ps : List (Ev × Value × Value)} (h : w.ownsRow 0 44 10 (.slice (some ⟨g, 0, none⟩) n cap) n (ps.flatMap cellsV)) {k : Nat} {p : Ev × Value × Value} (hk : ps[k]? = some p) :
    w.cell? ⟨g, k * 10, none⟩ = some (.int .i64 p.1.kind) ∧ w.cell? ⟨g, k * 10 + 1, none⟩ = some (.int .i64 p.1.i) ∧ w.cell? ⟨g, k * 10 + 2, none⟩ = some (.int .i64 p.1.src) ∧ w.cell? ⟨g, k * 10 + 3, none⟩ = some (.int .i64 p.1.code) ∧
    w.cell? ⟨g, k * 10 + 4, none⟩ = some (.int .i64 p.1.p.src) ∧ w.cell? ⟨g, k * 10 + 5, none⟩ = some (.int .i64 p.1.p.dst) ∧ w.cell? ⟨g, k * 10 + 6, none⟩ = some (.int .i64 p.1.p.n) ∧ w.cell? ⟨g, k * 10 + 7, none⟩ = some (.int .i64 p.1.p.life) ∧
    w.cell? ⟨g, k * 10 + 8, none⟩ = some p.2.1 ∧ w.cell? ⟨g, k * 10 + 9, none⟩ = some p.2.2 := by
  have hc : ∀ j u, j < 10 → (cellsV p)[j]? = some u → w.cell? ⟨g, k * 10 + j, none⟩ = some u := fun j u hj hu =>
    own_cellS h (k * 10 + j) u (by rw [flat_at cellsV_len ps k j p hk hj]; exact hu)
  exact ⟨hc 0 _ (by omega) rfl, hc 1 _ (by omega) rfl, hc 2 _ (by omega) rfl, hc 3 _ (by omega) rfl, hc 4 _ (by omega) rfl, hc 5 _ (by omega) rfl, hc 6 _ (by omega) rfl, hc 7 _ (by omega) rfl, hc 8 _ (by omega) rfl, hc 9 _ (by omega) rfl⟩
theorem foldl_snoc {α β : Type} (f : β → α → β) (b : β) (L : List α) (k : Nat) (z : α) (h : L[k]? = some z) : (L.take (k + 1)).foldl f b = f ((L.take k).foldl f b) z := by
  rw [List.take_add_one, h, List.foldl_append]; rfl
theorem tellF_len (err : Int) (known b : List Int) (e : Ev) : (tellF err known b e).length = b.length := by
  unfold tellF; split
  · simp
  · split <;> simp
theorem tells_len (err : Int) (known : List Int) (l : List Ev) (b : List Int) : (l.foldl (tellF err known) b).length = b.length := by
  induction l generalizing b with
  | nil => rfl
  | cons e l ih => rw [List.foldl_cons, ih, tellF_len]
section
variable {w0 w w' : World} {o0 o o' : Cls} {c : Cfg} {W : Nat} {x x' : WM} {asn : Int} {r r' : WR}
theorem WAt.bndval (h : WAt w0 o0 c W x asn w o r) (hc : 0 < c.nodes) : ∃ g cap, r.bv = .slice (some ⟨g, 0, none⟩) c.nodes cap := by
  obtain ⟨g, cap, cur, e, _⟩ := own_pos h.wd.bnd hc
  exact ⟨g, cap, e⟩
theorem WAt.blen (h : WAt w0 o0 c W x asn w o r) : x.bound.length = c.nodes := by have := h.wd.bnd.1; simpa using this
theorem WAt.bcell (h : WAt w0 o0 c W x asn w o r) {g cap : Nat} (hg : r.bv = .slice (some ⟨g, 0, none⟩) c.nodes cap) (q : Nat) (hq : q < c.nodes) : w.cell? ⟨g, q, none⟩ = some (.int .i64 (atL x.bound q)) := by
  have hb := h.wd.bnd
  rw [hg] at hb
  refine own_cell hb q _ ?_
  rw [List.getElem?_map, List.getElem?_eq_getElem (by rw [h.blen]; exact hq)]
  unfold atL
  rw [List.getD_eq_getElem?_getD, List.getElem?_eq_getElem (by rw [h.blen]; exact hq)]
  rfl
theorem WAt.bfr (h : WAt w0 o0 c W x asn w o r) {g cap : Nat} (hg : r.bv = .slice (some ⟨g, 0, none⟩) c.nodes cap) (q : Nat) : w.frozen? ⟨g, q, none⟩ = false := by
  have hb := h.wd.bnd
  rw [hg] at hb
  rcases hb.2 with ⟨e, _⟩ | ⟨g2, c2, cur, e, _, hb2, _⟩
  · cases e
  · cases e; exact frozen_of_block hb2 q
/-- an entry of what is known. -/
theorem WAt.lowb (h : WAt w0 o0 c W x asn w o r) (hc : 0 < c.nodes) (kv : Value) (known : List Int) (hk : RV VI w o kv known) {w5 : World} (g : Chg (fun q => r.bv.ownBlock = some q) w w5) : RV VI w5 o kv known :=
  hk.keep g (fun j hj e => by have := h.wd.bndo j e; rw [hj] at this; exact cl_ne0 16 2 this.symm)
set_option maxRecDepth 100000 in
set_option maxHeartbeats 8000000 in
theorem wtells_any (hc : CfgOk c) (h : WAt w0 o0 c W x asn w o r) (v : Value) (l : List Ev) (k : Nat) (hE : Eo w o k v l) (hk : k ≠ cl 16 0 ∧ k ≠ cl 16 2 ∧ k ≠ cl 16 4) (kv : Value) (known : List Int)
    (hkv : (RV VI w o kv known ∧ known.length = c.nodes ∧ ∀ z ∈ known, -1 ≤ z ∧ z ≤ 1000000000000) ∨ ∀ e ∈ l, e.kind ≠ 7) (hok : ∀ e ∈ l, (e.kind = 7 ∨ e.kind = 3 → 0 ≤ e.i ∧ e.i < c.nodes) ∧ (e.kind = 7 → 0 ≤ e.src ∧ e.src < c.nodes))
    (hl : l.length ≤ 1000) (hx : x.ev.length ≤ 100000) :
    Calls Tryz.prog 35 #[VP W, v, kv] w (PW w0 o0 c W (WM.tells c known x l) asn r (fun v _ _ => v = .tuple #[])) := by
  have hn0 := hc.n0
  have hn1 := hc.n1
  have he0 := hc.e
  have H := Lib.hid h
  obtain ⟨gb, bcap, hbv⟩ := h.bndval (by omega)
  obtain ⟨ps, p1, p2, p3, p4⟩ := hE
  have hpl : ps.length = l.length := by rw [p4, List.length_map]
  rw [hpl] at p1
  obtain ⟨n, hn⟩ : ∃ n, n = l.length := ⟨_, rfl⟩
  rw [← hn] at p1 hl hpl
  obtain ⟨A, cap, hv⟩ : ∃ A cap, v = .slice A n cap := by
    rcases own_val p1 with ⟨e, h1, _⟩ | ⟨g, cap, e, _⟩
    · exact ⟨none, 0, by rw [e, h1]⟩
    · exact ⟨_, _, e⟩
  have HE := Lib.hid (And.intro p1 (And.intro p2 (And.intro p3 (And.intro p4 hpl))))
  have HKV := Lib.hid hkv
  have HOK := Lib.hid hok
  have HN := Lib.hid hn
  have HBV := Lib.hid hbv
  have HV := Lib.hid hv
  obtain ⟨F, hF⟩ : ∃ F, F = WM.tells c known x l := ⟨_, rfl⟩
  rw [← hF]
  have HF := Lib.hid hF
  subst hv
  have hl2 : (n : Int) ≤ 1000 := by omega
  clear h p1 p2 p3 p4 hpl hkv hok hn hbv hF
  unfold VP
  go_enter Tryz.func35, Tryz.ntmps35
  go_wp2_with fail
  go_loopw [11] (fun i wr => ∃ (k : Nat), k ≤ n ∧ i = .int .i64 k ∧ WAt w0 o0 c W { x with bound := (l.take k).foldl (tellF c.err known) x.bound } asn wr o r ∧ Chg (fun q => r.bv.ownBlock = some q) w wr) (fun i _ => n - (intOf i).toNat)
  case atStart => exact ⟨0, by omega, rfl, H.out, Chg.refl _ _⟩
  case round =>
    obtain ⟨q, hq, rfl, hA, hG⟩ := hrel
    have HA := Lib.hid hA
    have HG := Lib.hid hG
    clear hA hG
    by_cases hlt : q < n
    · obtain ⟨⟨e, pv, dv⟩, hz⟩ : ∃ z, ps[q]? = some z := ⟨_, List.getElem?_eq_getElem (by have := HE.out.2.2.2.2; omega)⟩
      have hze : l[q]? = some e := by rw [HE.out.2.2.2.1, List.getElem?_map, hz]; rfl
      have i1 : (q : Int) < (n : Int) := by omega
      obtain ⟨g, cap2, hvv⟩ : ∃ g cap2, A = some ⟨g, 0, none⟩ ∧ cap = cap2 := by
        rcases own_val HE.out.1 with ⟨e, h1, _⟩ | ⟨g, cap2, e, _⟩
        · omega
        · cases e; exact ⟨_, _, rfl, rfl⟩
      obtain ⟨rfl, rfl⟩ := hvv
      have hrow := own_chg HE.out.1 HG.out (fun k2 hk2 e => by
        have h1 := HE.out.2.1 k2 hk2
        have h2 := H.out.wd.bndo k2 e
        rw [h1] at h2
        exact hk.2.1 h2)
      obtain ⟨d0, d1, d2, d3, d4, d5, d6, d7, d8, d9⟩ := evAt hrow hz
      obtain ⟨ok1, ok2⟩ := HOK.out e (List.mem_of_getElem? hze)
      have hnx := foldl_snoc (tellF c.err known) x.bound l q e hze
      have hpv : ∃ A n c, pv = .slice A n c := by
        obtain ⟨⟨A, c, e, _⟩, _⟩ := HE.out.2.2.1 _ (List.mem_of_getElem? hz)
        exact ⟨_, _, _, e⟩
      have hdv : ∃ A n c, dv = .slice A n c := by
        obtain ⟨_, ⟨A, c, e, _⟩, _⟩ := HE.out.2.2.1 _ (List.mem_of_getElem? hz)
        exact ⟨_, _, _, e⟩
      obtain ⟨pA, pn, pc, rfl⟩ := hpv
      obtain ⟨dA, dn, dc, rfl⟩ := hdv
      have HZ := Lib.hid (List.mem_of_getElem? hze)
      dsimp only at d0 d1 d2 d3 d4 d5 d6 d7 d8 d9
      clear hz hze hrow
      obtain ⟨X, hX⟩ : ∃ X : WM, X = { x with bound := (l.take q).foldl (tellF c.err known) x.bound } := ⟨_, rfl⟩
      have HX : Hid (X = { x with bound := (l.take q).foldl (tellF c.err known) x.bound }) := Lib.hid hX
      rw [← hX] at HA
      have hX2 : { x with bound := (l.take (q + 1)).foldl (tellF c.err known) x.bound } = { X with bound := tellF c.err known X.bound e } := by rw [hnx, hX]
      have HX2 := Lib.hid hX2
      clear hX hX2 hnx
      by_cases h7 : e.kind = 7
      · obtain ⟨oi0, oi1⟩ := ok1 (.inl h7)
        obtain ⟨os0, os1⟩ := ok2 h7
        obtain ⟨i', hi'⟩ := Int.eq_ofNat_of_zero_le oi0
        obtain ⟨s', hs'⟩ := Int.eq_ofNat_of_zero_le os0
        have HI := Lib.hid (And.intro hi' hs')
        rw [hi'] at d1 oi1
        rw [hs'] at d2 os1
        have hin : i' < c.nodes := by omega
        have hsn : s' < c.nodes := by omega
        have b7 : (e.kind == 7) = true := by simp [h7]
        rcases HKV.out with ⟨hk1, hk2, hk3⟩ | hno
        · have HH7 := Lib.hid h7
          have HKW := Lib.hid (show ∀ W5, Chg (fun q => r.bv.ownBlock = some q) w W5 → RV VI W5 o kv known from fun W5 g5 => H.out.lowb (by omega) kv known hk1 g5)
          obtain ⟨kA, kc, hkve, _⟩ := hk1
          rw [hk2] at hkve
          subst hkve
          obtain ⟨z, hz⟩ : ∃ z, known[s']? = some z := ⟨_, List.getElem?_eq_getElem (by omega)⟩
          obtain ⟨z0, z1⟩ := hk3 z (List.mem_of_getElem? hz)
          have hza : atL known s' = z := by unfold atL; rw [List.getD_eq_getElem?_getD, hz]; rfl
          obtain ⟨kp, hkp⟩ : ∃ kp, kA = some kp := by
            obtain ⟨A2, c2, e2, hr2, _⟩ := HKW.out wr HG.out
            rw [hk2] at e2 hr2
            cases e2
            obtain ⟨p2, z2, hp2, _⟩ := hr2.at (i := s') (by omega)
            exact ⟨p2, hp2⟩
          subst hkp
          have HKB := Lib.hid (show ¬ kp.block = gb from by
            obtain ⟨A2, c2, e2, hr2, _⟩ := HKW.out w (Chg.refl _ _)
            rw [hk2] at e2 hr2
            cases e2
            obtain ⟨x2, e3, h0, _⟩ := hr2.2 s' (by rw [hk2]; exact hsn)
            cases e3
            intro e
            have h2 := H.out.wd.bndo gb (by rw [HBV.out]; rfl)
            rw [← e, h0] at h2
            exact cl_ne0 16 2 h2.symm)
          have HWG := Lib.hid (show ¬ W = gb from fun e => by
            have h2 := H.out.wd.bndo gb (by rw [HBV.out]; rfl)
            rw [← e, H.out.wd.ob] at h2
            have := (cl_inj h2 (by omega) (by omega)).2
            omega)
          have HZC := Lib.hid (show ∀ W5, Chg (fun q => r.bv.ownBlock = some q) w W5 → W5.cell? (kp.add s') = some (.int .i64 z) from fun W5 g5 => by
            obtain ⟨A2, c2, e2, hr2, _⟩ := HKW.out W5 g5
            rw [hk2] at e2 hr2
            cases e2
            obtain ⟨p2, z2, hp2, hz2, hc2⟩ := hr2.at (i := s') (by omega)
            cases hp2
            rw [hz] at hz2
            cases hz2
            exact hc2)
          have ht : tellF c.err known X.bound e = X.bound.set i' (if 0 ≤ z then z + c.err else -1) := by
            unfold tellF; rw [if_pos h7, hi', hs', Int.toNat_natCast, Int.toNat_natCast, hza]
          have HT := Lib.hid ht
          have HAE := Lib.hid (HA.out.kept hn1 ((Chg.alloc (fun _ => False) wr (.cells #[.int .i64 e.kind, .int .i64 (i' : Int), .int .i64 (s' : Int), .int .i64 e.code, .int .i64 e.p.src, .int .i64 e.p.dst, .int .i64 e.p.n, .int .i64 e.p.life, .slice pA pn pc, .slice dA dn dc] 44)).trans (Chg.drew _ _)))
          have c11 : (wr.alloc (.cells #[.int .i64 e.kind, .int .i64 (i' : Int), .int .i64 (s' : Int), .int .i64 e.code, .int .i64 e.p.src, .int .i64 e.p.dst, .int .i64 e.p.n, .int .i64 e.p.life, .slice pA pn pc, .slice dA dn dc] 44)).cell? ⟨W, 11, none⟩ = some (.slice (some ⟨gb, 0, none⟩) c.nodes bcap) := by rw [← HBV.out]; exact (HA.out.kept hn1 (Chg.alloc (fun _ => False) wr (.cells #[.int .i64 e.kind, .int .i64 (i' : Int), .int .i64 (s' : Int), .int .i64 e.code, .int .i64 e.p.src, .int .i64 e.p.dst, .int .i64 e.p.n, .int .i64 e.p.life, .slice pA pn pc, .slice dA dn dc] 44))).cell 11
          have HGE := Lib.hid (HG.out.trans ((Chg.alloc _ wr (.cells #[.int .i64 e.kind, .int .i64 (i' : Int), .int .i64 (s' : Int), .int .i64 e.code, .int .i64 e.p.src, .int .i64 e.p.dst, .int .i64 e.p.n, .int .i64 e.p.life, .slice pA pn pc, .slice dA dn dc] 44)).trans (Chg.drew _ _)))
          have bc := HAE.out.bcell HBV.out i' hin
          have bf := HAE.out.bfr HBV.out i'
          have hgl : gb < wr.heap.size := by have := lt_of_cell (HA.out.bcell HBV.out i' hin); exact this
          have HEB := Lib.hid (show (wr.alloc (.cells #[.int .i64 e.kind, .int .i64 (i' : Int), .int .i64 (s' : Int), .int .i64 e.code, .int .i64 e.p.src, .int .i64 e.p.dst, .int .i64 e.p.n, .int .i64 e.p.life, .slice pA pn pc, .slice dA dn dc] 44)).drew.heap[wr.heap.size]? = some (Obj.cells #[Value.int .i64 e.kind, .int .i64 (i' : Int), .int .i64 (s' : Int), .int .i64 e.code, .int .i64 e.p.src, .int .i64 e.p.dst, .int .i64 e.p.n, .int .i64 e.p.life, .slice pA pn pc, .slice dA dn dc] 44 (0, 0)) from block_alloc wr (.cells #[.int .i64 e.kind, .int .i64 (i' : Int), .int .i64 (s' : Int), .int .i64 e.code, .int .i64 e.p.src, .int .i64 e.p.dst, .int .i64 e.p.n, .int .i64 e.p.life, .slice pA pn pc, .slice dA dn dc] 44))
          obtain ⟨x0, x1, _⟩ := cell10 (block_alloc wr (.cells #[.int .i64 e.kind, .int .i64 (i' : Int), .int .i64 (s' : Int), .int .i64 e.code, .int .i64 e.p.src, .int .i64 e.p.dst, .int .i64 e.p.n, .int .i64 e.p.life, .slice pA pn pc, .slice dA dn dc] 44))
          clear h7 hi' hs' ok1 ok2 ht hz hza hk2 hk3 HKV HKW
          go_wp2_with fail
          generalize wr.alloc (.cells #[.int .i64 e.kind, .int .i64 (i' : Int), .int .i64 (s' : Int), .int .i64 e.code, .int .i64 e.p.src, .int .i64 e.p.dst, .int .i64 e.p.n, .int .i64 e.p.life, .slice pA pn pc, .slice dA dn dc] 44) = we at *
          obtain ⟨eb, heb⟩ : ∃ eb, eb = wr.heap.size := ⟨_, rfl⟩
          rw [← heb] at x0 x1 HEB hgl ⊢
          clear heb
          go_still_tail 7, (by kernel_rfl)
          change wpList _ _ _ _ _ we.drew
          generalize we.drew = wd at *
          obtain ⟨y0, y1, y2, _⟩ := cell10 HEB.out
          have hbn1 : ¬ eb = gb := by omega
          have hbn2 : ¬ gb = eb := by omega
          have zc := HZC.out wd HGE.out
          have hkb := HKB.out
          have hkb2 : ¬ gb = kp.block := fun e => hkb e.symm
          have hadd := add_block kp s'
          have c11d : wd.cell? ⟨W, 11, none⟩ = some (.slice (some ⟨gb, 0, none⟩) c.nodes bcap) := by rw [← HBV.out]; exact HAE.out.cell 11
          have c4 : wd.cell? ⟨W, 4, none⟩ = some (.int .i64 c.err) := HAE.out.cell 4
          have hwn : ¬ W = gb := HWG.out
          have hwn2 : ¬ gb = W := fun e => HWG.out e.symm
          have e1 : IntKind.i64.wrap (z + c.err) = z + c.err := IntWalk.i64_in _ (by omega)
          have HEB2 := Lib.hid (show ∀ x : Value, (wd.setCell ⟨gb, i', none⟩ x).heap[eb]? = wd.heap[eb]? from fun x => by
            rw [HEB.out]; exact Chg.keep (chg1 wd gb i' x) HEB.out hbn1)
          have HGF := Lib.hid (HGE.out.trans (Chg.set wd ⟨gb, i', none⟩ (.int .i64 (-1)) (show r.bv.ownBlock = some gb by rw [HBV.out]; rfl)))
          have HA2 := Lib.hid (HAE.out.bset hn1 HBV.out i' hin (-1))
          have zc2 := HZC.out _ HGF.out
          have hna : ¬ ((⟨gb, i', none⟩ : Addr) = kp.add s') := fun e => hkb2 (by have := congrArg Addr.block e; rw [hadd] at this; exact this)
          have hna2 : ¬ (kp.add s' = (⟨gb, i', none⟩ : Addr)) := fun e => hna e.symm
          by_cases hz : 0 ≤ z
          · have hT := HT.out
            rw [if_pos hz] at hT
            have HT := Lib.hid hT
            clear hT x0 x1 c11
            go_wp2_with fail
            have hb2 : (wd.setCell ⟨gb, i', none⟩ (.int .i64 (-1))).heap[eb]? = _ := (HEB2.out _).trans HEB.out
            have c11 : (wd.setCell ⟨gb, i', none⟩ (.int .i64 (-1))).cell? ⟨W, 11, none⟩ = some (.slice (some ⟨gb, 0, none⟩) c.nodes bcap) := by rw [← HBV.out]; exact HA2.out.cell 11
            have c4' : (wd.setCell ⟨gb, i', none⟩ (.int .i64 (-1))).cell? ⟨W, 4, none⟩ = some (.int .i64 c.err) := HA2.out.cell 4
            have HAD := Lib.hid (HA2.out.kept hn1 (Chg.drew _ _))
            have HGD := Lib.hid (HGF.out.trans (Chg.drew _ _))
            have bc' := HAD.out.bcell HBV.out i' hin
            have bf' := HAD.out.bfr HBV.out i'
            clear bc bf c11d c4 y0 y1 y2 zc zc2 hna hna2 HEB HEB2 HA2 HGF HAE HGE
            generalize wd.setCell ⟨gb, i', none⟩ (.int .i64 (-1)) = w2 at *
            obtain ⟨y0, y1, y2, _⟩ := cell10 hb2
            go_still_tail 14, (by kernel_rfl)
            change wpList _ _ _ _ _ w2.drew
            generalize w2.drew = w3 at *
            go_wp2_with fail
            go_roundw
            case measure => simp [intOf]; omega
            case rel =>
              refine ⟨q + 1, by omega, by go_num, ?_, HGD.out.trans (Chg.set _ _ _ ?_)⟩
              · have := HAD.out.bset hn1 HBV.out i' hin (z + c.err)
                rw [HX2.out, HT.out]
                simp only [List.set_set] at this
                exact this
              · show r.bv.ownBlock = some gb; rw [HBV.out]; rfl
          · have hT := HT.out
            rw [if_neg hz] at hT
            have HT := Lib.hid hT
            have bz : decide (0 ≤ z) = false := by simpa using hz
            clear hT hz x0 x1 c11
            go_wp2_with fail
            go_roundw
            case measure => simp [intOf]; omega
            case rel =>
              refine ⟨q + 1, by omega, by go_num, ?_, HGF.out⟩
              rw [HX2.out, HT.out]
              exact HA2.out
        · exact absurd h7 (hno e HZ.out)
      · have b7 : (e.kind == 7) = false := by simpa using h7
        by_cases h3 : e.kind = 3
        · obtain ⟨oi0, oi1⟩ := ok1 (.inr h3)
          obtain ⟨i', hi'⟩ := Int.eq_ofNat_of_zero_le oi0
          rw [hi'] at d1 oi1
          have hin : i' < c.nodes := by omega
          have b3 : (e.kind == 3) = true := by simp [h3]
          have ht : tellF c.err known X.bound e = X.bound.set i' (-1) := by
            unfold tellF; rw [if_neg h7, if_pos h3, hi', Int.toNat_natCast]
          have HT := Lib.hid ht
          have HAE := Lib.hid (HA.out.kept hn1 ((Chg.alloc (fun _ => False) wr (.cells #[.int .i64 e.kind, .int .i64 (i' : Int), .int .i64 e.src, .int .i64 e.code, .int .i64 e.p.src, .int .i64 e.p.dst, .int .i64 e.p.n, .int .i64 e.p.life, .slice pA pn pc, .slice dA dn dc] 44)).trans (Chg.drew _ _)))
          have c11 : (wr.alloc (.cells #[.int .i64 e.kind, .int .i64 (i' : Int), .int .i64 e.src, .int .i64 e.code, .int .i64 e.p.src, .int .i64 e.p.dst, .int .i64 e.p.n, .int .i64 e.p.life, .slice pA pn pc, .slice dA dn dc] 44)).cell? ⟨W, 11, none⟩ = some (.slice (some ⟨gb, 0, none⟩) c.nodes bcap) := by rw [← HBV.out]; exact (HA.out.kept hn1 (Chg.alloc (fun _ => False) wr (.cells #[.int .i64 e.kind, .int .i64 (i' : Int), .int .i64 e.src, .int .i64 e.code, .int .i64 e.p.src, .int .i64 e.p.dst, .int .i64 e.p.n, .int .i64 e.p.life, .slice pA pn pc, .slice dA dn dc] 44))).cell 11
          have HGE := Lib.hid (HG.out.trans ((Chg.alloc _ wr (.cells #[.int .i64 e.kind, .int .i64 (i' : Int), .int .i64 e.src, .int .i64 e.code, .int .i64 e.p.src, .int .i64 e.p.dst, .int .i64 e.p.n, .int .i64 e.p.life, .slice pA pn pc, .slice dA dn dc] 44)).trans (Chg.drew _ _)))
          have bc := HAE.out.bcell HBV.out i' hin
          have bf := HAE.out.bfr HBV.out i'
          obtain ⟨x0, x1, _⟩ := cell10 (block_alloc wr (.cells #[.int .i64 e.kind, .int .i64 (i' : Int), .int .i64 e.src, .int .i64 e.code, .int .i64 e.p.src, .int .i64 e.p.dst, .int .i64 e.p.n, .int .i64 e.p.life, .slice pA pn pc, .slice dA dn dc] 44))
          clear h7 h3 hi' ok1 ok2 ht
          go_wp2_with fail
          generalize wr.alloc (.cells #[.int .i64 e.kind, .int .i64 (i' : Int), .int .i64 e.src, .int .i64 e.code, .int .i64 e.p.src, .int .i64 e.p.dst, .int .i64 e.p.n, .int .i64 e.p.life, .slice pA pn pc, .slice dA dn dc] 44) = we at *
          go_still_tail 7, (by kernel_rfl)
          change wpList _ _ _ _ _ we.drew
          generalize we.drew = wd at *
          go_wp2_with fail
          go_roundw
          case measure => simp [intOf]; omega
          case rel =>
            refine ⟨q + 1, by omega, by go_num, ?_, HGE.out.trans (Chg.set _ _ _ ?_)⟩
            · rw [HX2.out, HT.out]; exact HAE.out.bset hn1 HBV.out i' hin (-1)
            · show r.bv.ownBlock = some gb; rw [HBV.out]; rfl
        · have b3 : (e.kind == 3) = false := by simpa using h3
          have ht : tellF c.err known X.bound e = X.bound := by
            unfold tellF; rw [if_neg h7, if_neg h3]
          have HT := Lib.hid ht
          have HAE := Lib.hid (And.intro (HA.out.kept hn1 (Chg.alloc (fun _ => False) wr (.cells #[.int .i64 e.kind, .int .i64 e.i, .int .i64 e.src, .int .i64 e.code, .int .i64 e.p.src, .int .i64 e.p.dst, .int .i64 e.p.n, .int .i64 e.p.life, .slice pA pn pc, .slice dA dn dc] 44))) (HG.out.trans (Chg.alloc _ wr (.cells #[.int .i64 e.kind, .int .i64 e.i, .int .i64 e.src, .int .i64 e.code, .int .i64 e.p.src, .int .i64 e.p.dst, .int .i64 e.p.n, .int .i64 e.p.life, .slice pA pn pc, .slice dA dn dc] 44))))
          clear h7 h3 ht ok1 ok2
          go_wp2_with fail
          go_roundw
          case measure => simp [intOf]; omega
          case rel =>
            refine ⟨q + 1, by omega, by go_num, ?_, HAE.out.2⟩
            rw [HX2.out, HT.out]
            exact HAE.out.1
    · obtain rfl : q = n := by omega
      have hfin := HA.out
      have hG := HG.out
      rw [List.take_of_length_le (by rw [← HN.out]; exact Nat.le_refl _)] at hfin
      have c13 : wr.cell? ⟨W, 13, none⟩ = some r.ev := hfin.cell 13
      have f13 := hfin.f 13
      obtain ⟨qs, q1, q2, q3, q4⟩ := hfin.wd.ev
      have hrow := own_chg HE.out.1 hG (fun k2 hk2 e => by
        have h1 := HE.out.2.1 k2 hk2
        have h2 := H.out.wd.bndo k2 e
        rw [h1] at h2
        exact hk.2.1 h2)
      obtain ⟨eA, ecap, hev⟩ : ∃ A cap, r.ev = .slice A qs.length cap := by
        rcases own_val q1 with ⟨e, h1, _⟩ | ⟨g, cap, e, _⟩
        · exact ⟨none, 0, by rw [e, h1]⟩
        · exact ⟨_, _, e⟩
      have hql : qs.length = x.ev.length := by
        have : x.ev = qs.map Prod.fst := q4
        rw [this, List.length_map]
      have hone : ∀ (rs : List (Ev × Value × Value)), (∀ p ∈ rs, RV VI w o p.2.1 p.1.p.path ∧ BO w o p.2.2 p.1.p.data) → ∀ u ∈ rs.flatMap cellsV, u.oneCell' = true := by
        intro rs hrs u hu
        obtain ⟨p, hp, hup⟩ := List.mem_flatMap.1 hu
        obtain ⟨⟨A, c, e, _⟩, ⟨A2, c2, e2, _⟩, _⟩ := hrs p hp
        obtain ⟨pe, pv, dv⟩ := p
        dsimp only at e e2
        subst e e2
        simp [cellsV] at hup
        rcases hup with rfl | rfl | rfl | rfl | rfl | rfl | rfl | rfl | rfl | rfl <;> rfl
      have h1 := hone ps HE.out.2.2.1
      rw [hev] at c13 q1
      obtain ⟨qn, hqn⟩ : ∃ qn, qn = qs.length := ⟨_, rfl⟩
      rw [← hqn] at c13 q1 hql hev
      have HQ := Lib.hid (And.intro q1 (And.intro q2 (And.intro q3 (And.intro q4 (And.intro hev (And.intro hql hqn))))))
      have HROW := Lib.hid (And.intro hrow h1)
      have HKS := Lib.hid (show ∀ p ∈ ps, RV VI wr o p.2.1 p.1.p.path ∧ BO wr o p.2.2 p.1.p.data from fun p hp => by
        have h0 : ∀ j, o j = 0 → ¬ (r.bv.ownBlock = some j) := fun j hj e => by have := H.out.wd.bndo j e; rw [hj] at this; exact cl_ne0 16 2 this.symm
        exact ⟨(HE.out.2.2.1 p hp).1.keep hG h0, (HE.out.2.2.1 p hp).2.keep hG h0⟩)
      have HFIN := Lib.hid hfin
      have hqle : qn + q ≤ 1000000 := by omega
      clear hone h1 hrow q1 q2 q3 q4 hev hql hqn hfin hG HA HG hx hl hl2 hlt hq
      go_wp2_with (at_builtin; go_loud (refine appRow ElV rfl (.tmp 61) (.tmp 62) rfl 0 (.slice eA qn ecap) qn (qs.flatMap cellsV) rfl HQ.out.1 0 _ q (ps.flatMap cellsV) rfl HROW.out.1 HROW.out.2 (by omega) (by omega) (Nat.zero_le _) ?grow))
      case grow =>
        intro v' w5 hown hgr hat
        obtain ⟨A5, cap5, rfl⟩ : ∃ A5 cap5, v' = .slice A5 (qn + q) cap5 := by
          rcases own_val hown with ⟨e, h1, _⟩ | ⟨g, cap, e, _⟩
          · exact ⟨none, 0, by rw [e, h1]⟩
          · exact ⟨_, _, e⟩
        obtain ⟨y1, y2, y3, y4, y5, y6, y7⟩ := HQ.out
        have G : Chg (fun k => r.ev.ownBlock = some k) wr w5 := chg_grown hgr (fun j e => by rw [y5]; exact e)
        have hWN : ¬ (r.ev.ownBlock = some W) := fun e => by
          have h1 := y2 W e
          rw [HFIN.out.wd.ob] at h1
          have := (cl_inj h1 (by omega) (by omega)).2
          omega
        have hb5 := Chg.keep G HFIN.out.wd.blk hWN
        have c13' : w5.cell? ⟨W, 13, none⟩ = some (.slice eA qn ecap) := by rw [cell_of_block hb5]; exact congrArg some y5
        have f13' := frozen_of_block hb5 13
        obtain ⟨o', hT⟩ := HFIN.out.tolds hn1 (ks := ps) (l := l) (.slice A5 (qn + q) cap5) w5 qn y6 qs y4 y3 HKS.out HE.out.2.2.2.1 G (by rw [HE.out.2.2.2.2]; exact hown) (by rw [y5]; exact hat)
        have HT := Lib.hid hT
        clear y1 y2 y3 y4 y5 y6 y7 G hWN hb5 hT hown hgr hat HFIN HQ HKS HROW c13 f13
        go_wp2_with fail
        go_end0
        rw [HF.out]
        exact ⟨_, o', _, rfl, HT.out, ⟨rfl, rfl, rfl, rfl, rfl⟩, rfl⟩
end
end Go.Proofs.YtnpihllannobgaaGreatDoor
