/- What frame.Decode comes to. No condition. -/
import Derived.Test.YtnpihllannobgaaGreatDoorG10
namespace Go.Proofs.YtnpihllannobgaaGreatDoor
set_option linter.unusedVariables false
set_option linter.unusedSimpArgs false
open Go.ChangeShapes Go.WideShapes Go.ChangeAt Go.RowKit

theorem next_any (w : World) (r : Nat) (s : RS) (h : Rx w r s) (x : Int) (hx : rTake s 1 = x) (s' : RS) (hs : rTakeS s 1 = s') : Calls Tryz.prog 112 #[.pointer (some ⟨r, 0, none⟩)] w (PRx w r s' (.int .i64 x)) := by
  have ht := rx_takeW h 1 8 rfl (by omega) x hx s' hs
  have hb := rTake_bd h 1
  rw [hx] at hb
  have h0 : 0 ≤ x := hb.1
  have h1 : x < 256 := hb.2
  have HT := Lib.hid ht
  clear ht hb hx hs h
  go_enter Tryz.func112, Tryz.ntmps112
  go_wp2_with fail
  (with_reducible refine HT.out.mono ?_)
  rintro en w1 ⟨rfl, R, G⟩
  have HG := Lib.hid (And.intro R G)
  clear R G HT
  go_wp2_with fail
  go_ret
  exact ⟨rfl, HG.out.1, HG.out.2⟩
theorem set6 (w : World) (b : Nat) (v0 v1 v2 v3 v4 v5 : Value) : Chg (· = b) w ((((((w.setCell ⟨b, 0, none⟩ v0).setCell ⟨b, 1, none⟩ v1).setCell ⟨b, 2, none⟩ v2).setCell ⟨b, 3, none⟩ v3).setCell ⟨b, 4, none⟩ v4).setCell ⟨b, 5, none⟩ v5) :=
  (set5 w b v0 v1 v2 v3 v4).trans (chg1 _ _ _ _)
theorem set6b {w : World} {b : Nat} {a0 a1 a2 a3 a4 a5 : Value} {t : TypeId} (h : w.heap[b]? = some (.cells #[a0, a1, a2, a3, a4, a5] t (0, 0))) (v0 v1 v2 v3 v4 v5 : Value) :
    ((((((w.setCell ⟨b, 0, none⟩ v0).setCell ⟨b, 1, none⟩ v1).setCell ⟨b, 2, none⟩ v2).setCell ⟨b, 3, none⟩ v3).setCell ⟨b, 4, none⟩ v4).setCell ⟨b, 5, none⟩ v5).heap[b]? = some (.cells #[v0, v1, v2, v3, v4, v5] t (0, 0)) := by
  have h0 := block_set h 0 v0
  have h1 := block_set h0 1 v1
  have h2 := block_set h1 2 v2
  have h3 := block_set h2 3 v3
  have h4 := block_set h3 4 v4
  have h5 := block_set h4 5 v5
  simpa using h5
theorem froz6 {w : World} {b : Nat} {c : Array Value} {t : TypeId} (h : w.heap[b]? = some (.cells c t (0, 0))) :
    w.frozen? ⟨b, 0, none⟩ = false ∧ w.frozen? ⟨b, 1, none⟩ = false ∧ w.frozen? ⟨b, 2, none⟩ = false ∧ w.frozen? ⟨b, 3, none⟩ = false ∧ w.frozen? ⟨b, 4, none⟩ = false ∧ w.frozen? ⟨b, 5, none⟩ = false :=
  ⟨frozen_of_block h 0, frozen_of_block h 1, frozen_of_block h 2, frozen_of_block h 3, frozen_of_block h 4, frozen_of_block h 5⟩
def NewB (w w' : World) (v : Value) (L : List Int) : Prop := ∀ own, Z w own → BO w' own v L
def PDecF (w : World) (x : Int × Fr) (en : Ending) (w' : World) : Prop :=
  ∃ iv dv, en = .returned (.tuple #[frV x.2 iv dv, .int .i64 x.1]) ∧ NewIO w w' iv x.2.ies ∧ NewB w w' dv x.2.data ∧ Chg (fun _ => False) w w'
theorem PDecF.err (w w' : World) (e : Int) (g : Chg (fun _ => False) w w') : PDecF w (e, fr0) (.returned (.tuple #[frV fr0 (.slice none 0 0) (.slice none 0 0), .int .i64 e])) w' :=
  ⟨_, _, rfl, fun own _ => IeO.nil _ _, fun own _ => BO.nil _ _, g⟩
/-- on the way: the result's block. -/
structure BAt (w W : World) : Prop where
  blk : W.heap[w.heap.size]? = some (.cells #[.int .i64 0, .int .i64 0, .int .i64 0, .int .i64 0, .slice none 0 0, .slice none 0 0] 71 (0, 0))
  chg : Chg (fun _ => False) w W
theorem BAt.kept {w W W' : World} (h : BAt w W) (g : Chg (fun _ => False) W W') : BAt w W' := ⟨Chg.keep g h.blk (fun e => e), h.chg.trans g⟩
theorem BAt.other {w W W' : World} {r : Nat} (h : BAt w W) (g : Chg (· = r) W W') (hr : w.heap.size < r) : BAt w W' :=
  ⟨Chg.keep g h.blk (fun e => by omega), (h.chg.none.trans (g.one (Nat.le_of_lt hr))).fresh⟩
theorem BAt.fin {w W W' : World} (h : BAt w W) (v0 v1 v2 v3 v4 v5 : Value) (hW : W' = (((((W.setCell ⟨w.heap.size, 0, none⟩ v0).setCell ⟨w.heap.size, 1, none⟩ v1).setCell ⟨w.heap.size, 2, none⟩ v2).setCell ⟨w.heap.size, 3, none⟩ v3).setCell ⟨w.heap.size, 4, none⟩ v4).setCell ⟨w.heap.size, 5, none⟩ v5) :
    W'.heap[w.heap.size]? = some (.cells #[v0, v1, v2, v3, v4, v5] 71 (0, 0)) ∧ Chg (fun _ => False) w W' ∧ Chg (· = w.heap.size) W W' := by
  subst hW
  have gs := set6 W w.heap.size v0 v1 v2 v3 v4 v5
  exact ⟨set6b h.blk v0 v1 v2 v3 v4 v5, (h.chg.none.trans (gs.mono (fun k _ h => (by have h : k = w.heap.size := h; show w.heap.size ≤ k; omega)))).fresh, gs⟩
theorem Ro.re {α : Type} {V : α → Value} {w : World} {o1 o2 : Cls} {a : Option Addr} {len : Nat} {zs : List α} (h : Ro V w o1 a len zs) (e : ∀ k, o1 k = 0 → o2 k = 0) : Ro V w o2 a len zs :=
  ⟨h.1, fun i hi => by obtain ⟨x, e1, hb, hc⟩ := h.2 i hi; exact ⟨x, e1, e _ hb, hc⟩⟩
theorem RV.re {V : Int → Value} {w : World} {o1 o2 : Cls} {v : Value} {L : List Int} (h : RV V w o1 v L) (e : ∀ k, o1 k = 0 → o2 k = 0) : RV V w o2 v L := by
  obtain ⟨A, c, h1, h2, h3⟩ := h
  exact ⟨A, c, h1, h2.re e, h3⟩
theorem IeO.re {w : World} {o1 o2 : Cls} {v : Value} {l : List El} (h : IeO w o1 v l) (e : ∀ k, o1 k = 0 → o2 k = 0) : IeO w o2 v l := by
  rcases h with h | ⟨g, c, h1, h2, h3, h4, h0, h5⟩
  · exact .inl h
  · exact .inr ⟨g, c, h1, e _ h2, h3, h4, h0, fun i hi => by
      obtain ⟨lv, h6, h7⟩ := h5 i hi
      exact ⟨lv, h6, h7.re e⟩⟩
theorem rText_len (s : RS) (n : Int) (hn : n ≤ 16) : (rText s n).length ≤ 16 := by
  unfold rText; split
  · rw [List.length_take]; omega
  · simp
theorem oneE_len (s : RS) : (oneE s).2.1.list.length ≤ 16 := by
  unfold oneE
  simp only []
  split
  · simp [el0]
  · split
    · simp [el0]
    · rename_i hk
      split
      · simp [el0]
      · split
        · simp [el0]
        · rename_i hr
          split
          · simp [el0]
          · unfold takeE
            split
            · simp
            · split
              · simp
              · rename_i k1 k2
                refine rText_len _ _ ?_
                simp only [rightE, k1, k2, if_false] at hr
                simpa using hr
theorem loopE_len (n : Nat) (acc : List El) (s : RS) (h : ∀ e ∈ acc, e.list.length ≤ 16) : (loopE n acc s).2.1.length ≤ acc.length + n ∧ ∀ e ∈ (loopE n acc s).2.1, e.list.length ≤ 16 := by
  induction n generalizing acc s with
  | zero => exact ⟨by simp [loopE], h⟩
  | succ n ih =>
    obtain ⟨g, e, s', ho⟩ : ∃ g e s', oneE s = (g, e, s') := ⟨_, _, _, rfl⟩
    have hl := oneE_len s
    rw [ho] at hl
    by_cases hg : g = 0
    · subst hg
      rw [loopE_step n acc s e s' ho]
      have := ih (acc ++ [e]) s' (fun x hx => by
        rcases List.mem_append.1 hx with hx | hx
        · exact h x hx
        · simp at hx; subst hx; exact hl)
      refine ⟨?_, this.2⟩
      have h1 := this.1
      rw [List.length_append, List.length_singleton] at h1
      omega
    · rw [loopE_err n acc s g e s' ho hg]
      exact ⟨by simp, fun x hx => by cases hx⟩
theorem decI_len (L : List Int) : (decI L).2.length ≤ 100 ∧ ∀ e ∈ (decI L).2, e.list.length ≤ 16 := by
  unfold decI
  simp only []
  split
  · simp
  · split
    · simp
    · rename_i h4
      obtain ⟨g, es, s2, ho⟩ : ∃ g es s2, loopE (rTake ⟨L, 0⟩ 1).toNat [] (rTakeS ⟨L, 0⟩ 1) = (g, es, s2) := ⟨_, _, _, rfl⟩
      have hl := loopE_len (rTake ⟨L, 0⟩ 1).toNat [] (rTakeS ⟨L, 0⟩ 1) (fun e he => by cases he)
      rw [ho] at hl ⊢
      simp only []
      split
      · simp
      · split
        · simp
        · refine ⟨?_, hl.2⟩
          have := hl.1
          simp at this ⊢
          omega
set_option maxRecDepth 100000 in
set_option maxHeartbeats 16000000 in
theorem fdecode_any (w : World) (v : Value) (L : List Int) (h : BS w w.heap.size v L) (hL : L.length ≤ 100000) :
    Calls Tryz.prog 65 #[v] w (PDecF w (decF L)) := by
  obtain ⟨R, hR⟩ : ∃ R, R = decF L := ⟨_, rfl⟩
  rw [← hR]
  have HL := Lib.hid hL
  have HB := Lib.hid h
  obtain ⟨A, c, rfl, hrs, hA, hcl, hcm, hby⟩ := h
  obtain ⟨n, hn⟩ : ∃ n, n = L.length := ⟨_, rfl⟩
  rw [← hn] at HB HL hrs hcl ⊢
  have hn3 : (n : Int) ≤ 100000 := by have := HL.out; omega
  unfold maxLen at hcm
  have hcl2 : (n : Int) ≤ c := by omega
  have HN := Lib.hid hn
  have HRS := Lib.hid (And.intro hrs (And.intro hA hby))
  have HR := Lib.hid hR
  have hgood : ∀ W, Chg (fun _ => False) w W → Calls Tryz.prog 110 #[.slice A n c] W (fun e w' => e = .returned (.bool (crcGood L)) ∧ Chg (fun _ => False) W w') := fun W g => crcGood_any W _ L ((HB.out.kept g).more g.size) (by rw [← HN.out]; exact HL.out)
  have HG := Lib.hid hgood
  clear hn hR hgood hrs hA hby
  by_cases h9 : n < 9
  · have h9i : (n : Int) < 9 := by omega
    have H9 := Lib.hid h9
    clear h9
    go_enter Tryz.func65, Tryz.ntmps65
    go_wp2_with fail
    have hr := HR.out
    unfold decF at hr
    rw [if_pos (by rw [← HN.out]; exact H9.out)] at hr
    rw [hr]
    exact bodyPost_ret (v := .tuple #[frV fr0 (.slice none 0 0) (.slice none 0 0), .int .i64 2]) (by simp [results, Tryz.results65, go_sem, frV, fr0]) rfl (PDecF.err _ _ _ (Chg.alloc _ _ _))
  · have H9 := Lib.hid (show 9 ≤ n by omega)
    have h9 : (9 : Int) ≤ n := Int.ofNat_le.2 H9.out
    by_cases hg : crcGood L = true
    · have HGT := Lib.hid hg
      clear hg
      obtain ⟨M, hM⟩ : ∃ M, M = L.take (n - 2) := ⟨_, rfl⟩
      obtain ⟨N, hN⟩ : ∃ N, N = n - 2 := ⟨_, rfl⟩
      obtain ⟨s0, hs0⟩ : ∃ s0 : RS, ⟨M, 0⟩ = s0 := ⟨_, rfl⟩
      obtain ⟨x0, hx0⟩ : ∃ x, rTake s0 1 = x := ⟨_, rfl⟩
      obtain ⟨s1, hs1⟩ : ∃ s, rTakeS s0 1 = s := ⟨_, rfl⟩
      obtain ⟨x1, hx1⟩ : ∃ x, rTake s1 1 = x := ⟨_, rfl⟩
      obtain ⟨s2, hs2⟩ : ∃ s, rTakeS s1 1 = s := ⟨_, rfl⟩
      obtain ⟨x2, hx2⟩ : ∃ x, rTake s2 1 = x := ⟨_, rfl⟩
      obtain ⟨s3, hs3⟩ : ∃ s, rTakeS s2 1 = s := ⟨_, rfl⟩
      obtain ⟨x3, hx3⟩ : ∃ x, rTake s3 1 = x := ⟨_, rfl⟩
      obtain ⟨s4, hs4⟩ : ∃ s, rTakeS s3 1 = s := ⟨_, rfl⟩
      obtain ⟨x4, hx4⟩ : ∃ x, rTake s4 1 = x := ⟨_, rfl⟩
      obtain ⟨s5, hs5⟩ : ∃ s, rTakeS s4 1 = s := ⟨_, rfl⟩
      obtain ⟨x5, hx5⟩ : ∃ x, rTake s5 1 = x := ⟨_, rfl⟩
      obtain ⟨s6, hs6⟩ : ∃ s, rTakeS s5 1 = s := ⟨_, rfl⟩
      obtain ⟨E, hE⟩ : ∃ x, rText s6 x5 = x := ⟨_, rfl⟩
      obtain ⟨s7, hs7⟩ : ∃ s, rTextS s6 x5 = s := ⟨_, rfl⟩
      obtain ⟨x7, hx7⟩ : ∃ x, rTake s7 1 = x := ⟨_, rfl⟩
      obtain ⟨s8, hs8⟩ : ∃ s, rTakeS s7 1 = s := ⟨_, rfl⟩
      obtain ⟨T, hT⟩ : ∃ x, rText s8 x7 = x := ⟨_, rfl⟩
      obtain ⟨s9, hs9⟩ : ∃ s, rTextS s8 x7 = s := ⟨_, rfl⟩
      obtain ⟨q, hq⟩ : ∃ q, rEnd s9 = q := ⟨_, rfl⟩
      obtain ⟨DI, hDI⟩ : ∃ D, decI E = D := ⟨_, rfl⟩
      have hrd : readF s0 = (x0, ⟨x1, x2, x3, x4, [], T⟩, E, s9) := by
        unfold readF; simp only [hx0, hs1, hx1, hs2, hx2, hs3, hx3, hs4, hx4, hs5, hx5, hs6, hE, hs7, hx7, hs8, hT, hs9]
      have hr2 : R = if x0 ≠ 197 ∨ q ≠ 0 then (3, fr0) else if DI.1 ≠ 0 then (DI.1, fr0) else if mayF ⟨x1, x2, x3, x4, DI.2, T⟩ then (0, ⟨x1, x2, x3, x4, DI.2, T⟩) else (3, fr0) := by
        rw [HR.out]; unfold decF
        rw [if_neg (by rw [← HN.out]; have := H9.out; omega), if_neg (by rw [HGT.out]; simp), ← HN.out, ← hM, hs0, hrd]
        simp only [hq, hDI]
      have HR2 := Lib.hid hr2
      have HX0 := Lib.hid (And.intro hx0 hs1)
      have HX1 := Lib.hid (And.intro hx1 hs2)
      have HX2 := Lib.hid (And.intro hx2 hs3)
      have HX3 := Lib.hid (And.intro hx3 hs4)
      have HX4 := Lib.hid (And.intro hx4 hs5)
      have HX5 := Lib.hid (And.intro hx5 hs6)
      have HE := Lib.hid (And.intro hE hs7)
      have HX7 := Lib.hid (And.intro hx7 hs8)
      have HT := Lib.hid (And.intro hT hs9)
      have HQ := Lib.hid hq
      have HDI := Lib.hid hDI
      have HS0 := Lib.hid hs0
      have hMl : M.length = N := by rw [hM, hN, List.length_take, ← HN.out]; omega
      have hMr : Rs V8 w w.heap.size A N M := by rw [hM, hN]; exact HRS.out.1.take (n - 2) (by omega)
      have hMb : ∀ x ∈ M, 0 ≤ x ∧ x < 256 := fun x hx => HRS.out.2.2 x (by rw [hM] at hx; exact List.mem_of_mem_take hx)
      have hNc : N ≤ c := by omega
      have hMS : BS w w.heap.size (.slice A N c) M := ⟨A, c, by rw [hMl], by rw [hMl]; exact hMr, HRS.out.2.1, by omega, by unfold maxLen; omega, hMb⟩
      have HMS := Lib.hid hMS
      have HML := Lib.hid hMl
      have e1 : IntKind.i64.wrap ((n : Int) - 2) = (N : Int) := by rw [IntWalk.i64_in _ (by omega)]; omega
      have e2 : (n : Int) - 2 = (N : Int) := by omega
      have i1 : (N : Int) ≤ c := by omega
      have h9i : (9 : Int) ≤ n := by have := H9.out; omega
      have HNN := Lib.hid hN
      clear hM hN hs0 hx0 hs1 hx1 hs2 hx2 hs3 hx3 hs4 hx4 hs5 hx5 hs6 hE hs7 hx7 hs8 hT hs9 hq hDI hrd hr2 hMl hMr hMb hMS HR
      go_enter Tryz.func65, Tryz.ntmps65
      have hB0 : BAt w (w.alloc (.cells #[.int .i64 0, .int .i64 0, .int .i64 0, .int .i64 0, .slice none 0 0, .slice none 0 0] 71)) := ⟨block_alloc _ _, Chg.alloc _ _ _⟩
      have HB0 := Lib.hid hB0
      clear hB0
      go_wp2_with fail
      (with_reducible refine (HG.out _ HB0.out.chg).mono ?_)
      rintro en w2 ⟨rfl, G2⟩
      rw [HGT.out]
      have HB2 := Lib.hid (HB0.out.kept G2)
      clear G2 HB0
      go_wp2_with fail
      (with_reducible refine (rx_new _ (.slice A N c) M ((HMS.out.kept HB2.out.chg).more HB2.out.chg.size) (by rw [HML.out]; have := HL.out; omega)).mono ?_)
      rintro en w3 ⟨r, rfl, Rr, hrr, G3⟩
      rw [HS0.out] at Rr
      have HB3 := Lib.hid (HB2.out.kept G3)
      have HRL := Lib.hid (show w.heap.size < r by have := lt_of_block HB2.out.blk; omega)
      have HX := Lib.hid Rr
      clear G3 HB2 Rr hrr e1 e2 i1
      go_wp2_with fail
      (with_reducible refine (next_any _ r _ HX.out _ HX0.out.1 _ HX0.out.2).mono ?_)
      rintro en w4 ⟨rfl, Rr, G4⟩
      have HB4 := Lib.hid (HB3.out.other G4 HRL.out)
      clear HX
      have HX := Lib.hid Rr
      clear Rr G4 HB3 HX0
      go_wp2_with fail
      (with_reducible refine (next_any _ r _ HX.out _ HX1.out.1 _ HX1.out.2).mono ?_)
      rintro en w5 ⟨rfl, Rr, G5⟩
      have HB5 := Lib.hid (HB4.out.other G5 HRL.out)
      clear HX
      have HX := Lib.hid Rr
      clear Rr G5 HB4 HX1
      go_wp2_with fail
      (with_reducible refine (next_any _ r _ HX.out _ HX2.out.1 _ HX2.out.2).mono ?_)
      rintro en w6 ⟨rfl, Rr, G6⟩
      have HB6 := Lib.hid (HB5.out.other G6 HRL.out)
      clear HX
      have HX := Lib.hid Rr
      clear Rr G6 HB5 HX2
      go_wp2_with fail
      (with_reducible refine (next_any _ r _ HX.out _ HX3.out.1 _ HX3.out.2).mono ?_)
      rintro en w7 ⟨rfl, Rr, G7⟩
      have HB7 := Lib.hid (HB6.out.other G7 HRL.out)
      clear HX
      have HX := Lib.hid Rr
      clear Rr G7 HB6 HX3
      go_wp2_with fail
      (with_reducible refine (next_any _ r _ HX.out _ HX4.out.1 _ HX4.out.2).mono ?_)
      rintro en w8 ⟨rfl, Rr, G8⟩
      have HB8 := Lib.hid (HB7.out.other G8 HRL.out)
      clear HX
      have HX := Lib.hid Rr
      clear Rr G8 HB7 HX4
      go_wp2_with fail
      have ga := Chg.alloc (fun _ => False) w8 (.cells #[.int .i64 x1, .int .i64 x2, .int .i64 x3, .int .i64 x4, .slice none 0 0, .slice none 0 0] 71)
      have hba := block_alloc w8 (.cells #[.int .i64 x1, .int .i64 x2, .int .i64 x3, .int .i64 x4, .slice none 0 0, .slice none 0 0] 71)
      have HB9 := Lib.hid (HB8.out.kept ga)
      have HF9 := Lib.hid (And.intro hba (And.intro (show r < w8.heap.size from HX.out.lt) (show w.heap.size < w8.heap.size from lt_of_block HB8.out.blk)))
      have HX9 := Lib.hid (HX.out.kept ga)
      clear ga hba HB8 HX
      generalize w8.alloc (.cells #[.int .i64 x1, .int .i64 x2, .int .i64 x3, .int .i64 x4, .slice none 0 0, .slice none 0 0] 71) = w9 at *
      generalize w8.heap.size = b at *
      (with_reducible refine (next_any _ r _ HX9.out _ HX5.out.1 _ HX5.out.2).mono ?_)
      rintro en w10 ⟨rfl, Rr, G10⟩
      have h5b : x5 ≤ 100000 := by
        have h := rTake_bd HX9.out 1
        rw [HX5.out.1] at h
        have : x5 < 256 := h.2
        omega
      have HB10 := Lib.hid (HB9.out.other G10 HRL.out)
      have HF10 := Lib.hid (And.intro (Chg.keep G10 HF9.out.1 (fun e => by have := HF9.out.2.1; omega)) HF9.out.2)
      have HX10 := Lib.hid Rr
      clear G10 HB9 HF9 HX9 Rr HX5
      go_wp2_with fail
      (with_reducible refine (rx_text w10 r s6 x5 HX10.out h5b).mono ?_)
      rintro en w11 ⟨ev, rfl, hown, Rr, G11, heb, hel⟩
      rw [HE.out.1] at hown heb hel
      rw [HE.out.2] at Rr
      have HB11 := Lib.hid (HB10.out.other G11 HRL.out)
      have HF11 := Lib.hid (And.intro (Chg.keep G11 HF10.out.1 (fun e => by have := HF10.out.2.1; omega)) HF10.out.2)
      have HX11 := Lib.hid Rr
      have HOE := Lib.hid (And.intro hown (And.intro heb (And.intro hel (And.intro (show b < w10.heap.size from lt_of_block HF10.out.1) (show r < w10.heap.size from HX10.out.lt)))))
      obtain ⟨AE, cE, rfl, _⟩ := BS.of_own hown heb
      clear G11 HB10 HF10 HX10 Rr hown heb hel HE h5b
      go_wp2_with fail
      (with_reducible refine (next_any _ r _ HX11.out _ HX7.out.1 _ HX7.out.2).mono ?_)
      rintro en w12 ⟨rfl, Rr, G12⟩
      have h7b : x7 ≤ 100000 := by
        have h := rTake_bd HX11.out 1
        rw [HX7.out.1] at h
        have : x7 < 256 := h.2
        omega
      have HB12 := Lib.hid (HB11.out.other G12 HRL.out)
      have HF12 := Lib.hid (And.intro (Chg.keep G12 HF11.out.1 (fun e => by have := HF11.out.2.1; omega)) HF11.out.2)
      have HX12 := Lib.hid Rr
      have HOE12 := Lib.hid (own_chg HOE.out.1 G12 (fun j h1 h2 => by have := (own_in HOE.out.1 h1).1; have h2 : j = r := h2; have := HOE.out.2.2.2.2; omega))
      clear G12 HB11 HF11 HX11 Rr HX7
      go_wp2_with fail
      (with_reducible refine (rx_text w12 r s8 x7 HX12.out h7b).mono ?_)
      rintro en w13 ⟨dv, rfl, hown, Rr, G13, hdb, hdl⟩
      rw [HT.out.1] at hown hdb hdl
      rw [HT.out.2] at Rr
      have HB13 := Lib.hid (HB12.out.other G13 HRL.out)
      have HF13 := Lib.hid (And.intro (Chg.keep G13 HF12.out.1 (fun e => by have := HF12.out.2.1; omega)) HF12.out.2)
      have HX13 := Lib.hid Rr
      have HOE13 := Lib.hid (own_chg HOE12.out G13 (fun j h1 h2 => by have := (own_in HOE12.out h1).1; have h2 : j = r := h2; have := HOE.out.2.2.2.2; omega))
      have HOD := Lib.hid (And.intro hown (And.intro hdb (And.intro hdl (show r < w12.heap.size from HX12.out.lt))))
      have HBW := Lib.hid (show b < w12.heap.size from lt_of_block HF12.out.1)
      have HBE := Lib.hid HOE.out.2.2.2.1
      obtain ⟨AD, cD, rfl, _⟩ := BS.of_own hown hdb
      clear G13 HB12 HF12 HX12 Rr hown hdb hdl HT h7b HOE12
      obtain ⟨d0, d1, d2, d3, d4, d5⟩ := cell6 HF13.out.1
      obtain ⟨e0, e1, e2, e3, e4, e5⟩ := froz6 HF13.out.1
      have gS := chg1 w13 b 5 (.slice AD T.length cD)
      have hF14 := block_set HF13.out.1 5 (.slice AD T.length cD)
      have hB14 : BAt w (w13.setCell ⟨b, 5, none⟩ (.slice AD T.length cD)) := HB13.out.other gS HF13.out.2.2
      have hX14 : Rx (w13.setCell ⟨b, 5, none⟩ (.slice AD T.length cD)) r s9 := HX13.out.keep gS (fun j h1 h2 => by have h2 : j = b := h2; have := HF13.out.2.1; omega)
      have hOE14 := own_chg HOE13.out gS (fun j h1 h2 => by have := (own_in HOE13.out h1).1; have h2 : j = b := h2; have := HBE.out; omega)
      have hOD14 := own_chg HOD.out.1 gS (fun j h1 h2 => by have := (own_in HOD.out.1 h1).1; have h2 : j = b := h2; have := HBW.out; omega)
      have H14 := Lib.hid (And.intro hF14 (And.intro hB14 (And.intro hX14 (And.intro hOE14 hOD14))))
      have HBR := Lib.hid HF13.out.2
      clear gS hF14 hB14 hX14 hOE14 hOD14 HF13 HX13 HOE13
      by_cases h197 : x0 = 197
      · have g197 : (x0 != 197) = false := by simpa using h197
        have H197 := Lib.hid h197
        clear h197
        go_wp2_with fail
        clear d0 d1 d2 d3 d4 d5 e0 e1 e2 e3 e4 e5
        generalize w13.setCell ⟨b, 5, none⟩ (.slice AD T.length cD) = w14 at *
        (with_reducible refine (rx_end w14 r s9 H14.out.2.2.1).mono ?_)
        rintro en w15 ⟨rfl, Rr, G15⟩
        rw [HQ.out]
        have HB15 := Lib.hid (H14.out.2.1.other G15 HRL.out)
        have HF15 := Lib.hid (Chg.keep G15 H14.out.1 (fun e => by have := HBR.out.1; omega))
        have HOE15 := Lib.hid (own_chg H14.out.2.2.2.1 G15 (fun j h1 h2 => by have := (own_in H14.out.2.2.2.1 h1).1; have h2 : j = r := h2; have := HOE.out.2.2.2.2; omega))
        have HOD15 := Lib.hid (own_chg H14.out.2.2.2.2 G15 (fun j h1 h2 => by have := (own_in H14.out.2.2.2.2 h1).1; have h2 : j = r := h2; have := HOD.out.2.2.2; omega))
        clear G15 Rr H14 HQ
        by_cases hq : q = 0
        · have gq : (q != 0) = false := by simpa using hq
          have HQ1 := Lib.hid hq
          clear hq
          have hid := idecode_any w15 (.slice AE E.length cE) E (BS.of_own HOE15.out HOE.out.2.1) HOE.out.2.2.1
          rw [HDI.out] at hid
          obtain ⟨g, es, hge⟩ : ∃ g es, DI = (g, es) := ⟨_, _, rfl⟩
          rw [hge] at hid
          have HDD := HDI
          have HGE := Lib.hid (show DI.1 = g ∧ DI.2 = es by rw [hge]; exact ⟨rfl, rfl⟩)
          have HID := Lib.hid hid
          clear hid hge HDI
          go_wp2_with fail
          (with_reducible refine HID.out.mono ?_)
          rintro en w16 ⟨iv, rfl, hio, G16⟩
          have HB16 := Lib.hid (HB15.out.kept G16)
          have HF16 := Lib.hid (Chg.keep G16 HF15.out (fun e => e))
          have HIO := Lib.hid hio
          have HOD16 := Lib.hid (own_chg HOD15.out G16 (fun _ _ e => e))
          have HBS := Lib.hid (show b < w15.heap.size from lt_of_block HF15.out)
          obtain ⟨AI, cI, rfl⟩ := (hio (fun _ => 0) (fun _ _ => rfl)).val
          obtain ⟨d0, d1, d2, d3, d4, d5⟩ := cell6 HF16.out
          obtain ⟨e0, e1, e2, e3, e4, e5⟩ := froz6 HF16.out
          have gS := chg1 w16 b 4 (.slice AI es.length cI)
          have hF17 := block_set HF16.out 4 (.slice AI es.length cI)
          have hB17 : BAt w (w16.setCell ⟨b, 4, none⟩ (.slice AI es.length cI)) := HB16.out.other gS HBR.out.2
          have H17 := Lib.hid (And.intro hF17 hB17)
          have hOD17 := own_chg HOD16.out gS (fun j h1 h2 => by have := (own_in HOD16.out h1).1; have h2 : j = b := h2; have := HBW.out; omega)
          have HOD17 := Lib.hid hOD17
          have HG17 := Lib.hid gS
          clear hio G16 HB15 HF15 HOE15 HOD15 HID hF17 hB17 gS hOD17
          by_cases hg0 : g = 0
          · have gq : (g != 0) = false := by simpa using hg0
            have HG1 := Lib.hid hg0
            clear hg0
            go_wp2_with fail
            clear d0 d1 d2 d3 d4 d5 e0 e1 e2 e3 e4 e5
            generalize w16.setCell ⟨b, 4, none⟩ (.slice AI es.length cI) = w17 at *
            have hown : ∃ own : Cls, Z w15 own ∧ own b ≠ 0 ∧ own w.heap.size ≠ 0 ∧ ∀ k, own k = 0 → w15.heap.size ≤ k :=
              ⟨fun k => if k < w15.heap.size then 1 else 0, fun k hk => by simp; omega, by simp [HBS.out], by have := HBR.out.2; have := HBS.out; simp; omega, fun k hk => by simp at hk; exact hk⟩
            obtain ⟨own, ho1, ho2, ho3, ho4⟩ := hown
            have hI17 : IeO w17 own (.slice AI es.length cI) es := (HIO.out own ho1).keep HG17.out (fun j h1 h2 => by have h2 : j = b := h2; subst h2; exact ho2 h1)
            have hbd : w15.heap.size ≤ w15.heap.size := Nat.le_refl _
            have hD17 : BS w17 w17.heap.size (.slice AD T.length cD) T := BS.of_own HOD17.out HOD.out.2.1
            have hOwnD : ∃ own2 : Cls, IeO w17 own2 (.slice AI es.length cI) es ∧ BO w17 own2 (.slice AD T.length cD) T := ⟨fun _ => 0, hI17.re (fun _ _ => rfl), BO.of_own HOD17.out HOD.out.2.1 (fun _ _ => rfl)⟩
            obtain ⟨own2, ha1, ha2⟩ := hOwnD
            have hlen := decI_len E
            rw [show decI E = (g, es) from by rw [HDD.out]; exact Prod.ext HGE.out.1 HGE.out.2] at hlen
            have hmay := fmay_any w17 own2 ⟨x1, x2, x3, x4, es, T⟩ (.slice AI es.length cI) (.slice AD T.length cD) ha1 ha2 (Nat.le_trans hlen.1 (by omega)) HOD.out.2.2.1 (fun e he => Nat.le_trans (hlen.2 e he) (by omega))
            unfold frV at hmay
            have HMAY := Lib.hid hmay
            have HI17 := Lib.hid (And.intro hI17 (And.intro ho3 ho4))
            obtain ⟨d0, d1, d2, d3, d4, d5⟩ := cell6 H17.out.1
            clear hmay hI17 ho1 ho2 ho3 ho4 ha1 ha2 hlen hbd hD17
            go_wp2_with fail
            (with_reducible refine HMAY.out.mono ?_)
            rintro en w18 ⟨rfl, G18⟩
            have HB18 := Lib.hid (H17.out.2.kept G18)
            have HF18 := Lib.hid (Chg.keep G18 H17.out.1 (fun e => e))
            have HI18 := Lib.hid (HI17.out.1.keep G18 (fun _ _ e => e))
            have HOD18 := Lib.hid (own_chg HOD17.out G18 (fun _ _ e => e))
            have HWS := Lib.hid (show w.heap.size < w12.heap.size by have := HBR.out.2; have := HBW.out; omega)
            clear G18 HMAY d0 d1 d2 d3 d4 d5
            by_cases hmf : mayF ⟨x1, x2, x3, x4, es, T⟩ = true
            · have HMF := Lib.hid hmf
              clear hmf
              rw [HMF.out]
              obtain ⟨c0, c1, c2, c3, c4, c5⟩ := cell6 HB18.out.blk
              obtain ⟨f0, f1, f2, f3, f4, f5⟩ := froz6 HB18.out.blk
              obtain ⟨d0, d1, d2, d3, d4, d5⟩ := cell6 HF18.out
              go_wp2_with fail
              obtain ⟨hbk, G, GS⟩ := HB18.out.fin (.int .i64 x1) (.int .i64 x2) (.int .i64 x3) (.int .i64 x4) (.slice AI es.length cI) (.slice AD T.length cD) rfl
              obtain ⟨k0, k1, k2, k3, k4, k5⟩ := cell6 hbk
              have hr := HR2.out
              rw [if_neg (fun h => h.elim (fun h => h H197.out) (fun h => h HQ1.out)), if_neg (fun h => h (HGE.out.1.trans HG1.out)), HGE.out.2, if_pos HMF.out] at hr
              rw [hr]
              exact bodyPost_ret (v := .tuple #[frV ⟨x1, x2, x3, x4, es, T⟩ (.slice AI es.length cI) (.slice AD T.length cD), .int .i64 0]) (by simp [results, Tryz.results65, go_sem, frV, k0, k1, k2, k3, k4, k5]) rfl
                ⟨_, _, rfl, fun own' hz => (HI18.out.keep GS (fun j h1 h2 => by have h2 : j = w.heap.size := h2; subst h2; exact HI17.out.2.1 h1)).re (fun k hk => hz k (by have := HI17.out.2.2 k hk; have := HBS.out; have := HBR.out.2; omega)), fun own' hz => BO.of_own (own_chg HOD18.out GS (fun j h1 h2 => by have := (own_in HOD18.out h1).1; have h2 : j = w.heap.size := h2; have := HWS.out; omega)) HOD.out.2.1 (fun k hk => hz k (by have := HWS.out; omega)), G⟩
            · have hmf : mayF ⟨x1, x2, x3, x4, es, T⟩ = false := by simpa using hmf
              have HMF := Lib.hid hmf
              clear hmf
              rw [HMF.out]
              have HBX := HB18
              obtain ⟨c0, c1, c2, c3, c4, c5⟩ := cell6 HB18.out.blk
              obtain ⟨f0, f1, f2, f3, f4, f5⟩ := froz6 HB18.out.blk
              go_wp2_with fail
              obtain ⟨hbk, G, _⟩ := HBX.out.fin (.int .i64 0) (.int .i64 0) (.int .i64 0) (.int .i64 0) (.slice none 0 0) (.slice none 0 0) rfl
              obtain ⟨k0, k1, k2, k3, k4, k5⟩ := cell6 hbk
              have hr := HR2.out
              rw [if_neg (fun h => h.elim (fun h => h H197.out) (fun h => h HQ1.out)), if_neg (fun h => h (HGE.out.1.trans HG1.out)), HGE.out.2, if_neg (by rw [HMF.out]; simp)] at hr
              rw [hr]
              exact bodyPost_ret (v := .tuple #[frV fr0 (.slice none 0 0) (.slice none 0 0), .int .i64 3]) (by simp [results, Tryz.results65, go_sem, frV, fr0, k0, k1, k2, k3, k4, k5]) rfl (PDecF.err _ _ _ G)
          · have gq : (g != 0) = true := by simpa using hg0
            have gq2 : (g == 0) = false := by simpa using hg0
            have HG1 := Lib.hid hg0
            have HBX := Lib.hid H17.out.2
            clear hg0
            obtain ⟨c0, c1, c2, c3, c4, c5⟩ := cell6 HB16.out.blk
            obtain ⟨f0, f1, f2, f3, f4, f5⟩ := froz6 HB16.out.blk
            have hne1 : ¬ (b = w.heap.size) := by have := HBR.out.2; omega
            have hne2 : ¬ (w.heap.size = b) := by have := HBR.out.2; omega
            go_wp2_with fail
            obtain ⟨hbk, G, _⟩ := HBX.out.fin (.int .i64 0) (.int .i64 0) (.int .i64 0) (.int .i64 0) (.slice none 0 0) (.slice none 0 0) rfl
            obtain ⟨k0, k1, k2, k3, k4, k5⟩ := cell6 hbk
            have hr := HR2.out
            rw [if_neg (fun h => h.elim (fun h => h H197.out) (fun h => h HQ1.out)), HGE.out.1, if_pos HG1.out] at hr
            rw [hr]
            exact bodyPost_ret (v := .tuple #[frV fr0 (.slice none 0 0) (.slice none 0 0), .int .i64 g]) (by simp [results, Tryz.results65, go_sem, frV, fr0, k0, k1, k2, k3, k4, k5]) rfl (PDecF.err _ _ _ G)
        · have gq : (q != 0) = true := by simpa using hq
          have HQ1 := Lib.hid hq
          have HBX := HB15
          clear hq
          obtain ⟨c0, c1, c2, c3, c4, c5⟩ := cell6 HB15.out.blk
          obtain ⟨f0, f1, f2, f3, f4, f5⟩ := froz6 HB15.out.blk
          go_wp2_with fail
          obtain ⟨hbk, G, _⟩ := HBX.out.fin (.int .i64 0) (.int .i64 0) (.int .i64 0) (.int .i64 0) (.slice none 0 0) (.slice none 0 0) rfl
          obtain ⟨k0, k1, k2, k3, k4, k5⟩ := cell6 hbk
          have hr := HR2.out
          rw [if_pos (.inr HQ1.out)] at hr
          rw [hr]
          exact bodyPost_ret (v := .tuple #[frV fr0 (.slice none 0 0) (.slice none 0 0), .int .i64 3]) (by simp [results, Tryz.results65, go_sem, frV, fr0, k0, k1, k2, k3, k4, k5]) rfl (PDecF.err _ _ _ G)
      · have g197 : (x0 != 197) = true := by simpa using h197
        have H197 := Lib.hid h197
        have HBX := Lib.hid H14.out.2.1
        clear h197
        obtain ⟨c0, c1, c2, c3, c4, c5⟩ := cell6 HB13.out.blk
        obtain ⟨f0, f1, f2, f3, f4, f5⟩ := froz6 HB13.out.blk
        have hne1 : ¬ (b = w.heap.size) := by have := HBR.out.2; omega
        have hne2 : ¬ (w.heap.size = b) := by have := HBR.out.2; omega
        go_wp2_with fail
        obtain ⟨hbk, G, _⟩ := HBX.out.fin (.int .i64 0) (.int .i64 0) (.int .i64 0) (.int .i64 0) (.slice none 0 0) (.slice none 0 0) rfl
        obtain ⟨k0, k1, k2, k3, k4, k5⟩ := cell6 hbk
        have hr := HR2.out
        rw [if_pos (.inl H197.out)] at hr
        rw [hr]
        exact bodyPost_ret (v := .tuple #[frV fr0 (.slice none 0 0) (.slice none 0 0), .int .i64 3]) (by simp [results, Tryz.results65, go_sem, frV, fr0, k0, k1, k2, k3, k4, k5]) rfl (PDecF.err _ _ _ G)
    · have hg : crcGood L = false := by simpa using hg
      have HGF := Lib.hid hg
      clear hg
      go_enter Tryz.func65, Tryz.ntmps65
      have hB0 : BAt w (w.alloc (.cells #[.int .i64 0, .int .i64 0, .int .i64 0, .int .i64 0, .slice none 0 0, .slice none 0 0] 71)) := ⟨block_alloc _ _, Chg.alloc _ _ _⟩
      have HB0 := Lib.hid hB0
      clear hB0
      go_wp2_with fail
      (with_reducible refine (HG.out _ HB0.out.chg).mono ?_)
      rintro en w2 ⟨rfl, G2⟩
      rw [HGF.out]
      have HB2 := Lib.hid (HB0.out.kept G2)
      clear G2 HB0
      obtain ⟨c0, c1, c2, c3, c4, c5⟩ := cell6 HB2.out.blk
      obtain ⟨f0, f1, f2, f3, f4, f5⟩ := froz6 HB2.out.blk
      go_wp2_with fail
      obtain ⟨hbk, G, _⟩ := HB2.out.fin (.int .i64 0) (.int .i64 0) (.int .i64 0) (.int .i64 0) (.slice none 0 0) (.slice none 0 0) rfl
      obtain ⟨k0, k1, k2, k3, k4, k5⟩ := cell6 hbk
      have hr := HR.out
      unfold decF at hr
      rw [if_neg (by rw [← HN.out]; have := H9.out; omega), if_pos (by rw [HGF.out]; rfl)] at hr
      rw [hr]
      exact bodyPost_ret (v := .tuple #[frV fr0 (.slice none 0 0) (.slice none 0 0), .int .i64 4]) (by simp [results, Tryz.results65, go_sem, frV, fr0, k0, k1, k2, k3, k4, k5]) rfl (PDecF.err _ _ _ G)
end Go.Proofs.YtnpihllannobgaaGreatDoor
namespace Go.Proofs.YtnpihllannobgaaGreatDoor
set_option linter.unusedVariables false
set_option linter.unusedSimpArgs false
open Go.ChangeShapes Go.WideShapes Go.ChangeAt Go.RowKit

def HopOk (L : List Int) : Prop := (∀ c ∈ L, 0 ≤ c ∧ c ≤ 31) ∧ L.Nodup ∧ 1 ≤ L.length ∧ L.length ≤ 16
theorem nodup_at {L : List Int} (h : L.Nodup) (k : Nat) (z : Int) (hz : L[k]? = some z) : (L.take k).contains z = false := by
  rw [Bool.eq_false_iff]
  intro hc
  have hc : z ∈ L.take k := by simpa using hc
  obtain ⟨j, hj, he⟩ := List.getElem_of_mem hc
  have hlt := (List.getElem?_eq_some_iff.1 hz).1
  have hj2 : j < k := by rw [List.length_take] at hj; omega
  have h1 : L[j]'(by omega) = L[k] := by
    rw [List.getElem_take] at he
    rw [he]
    exact (List.getElem?_eq_some_iff.1 hz).2.symm
  exact List.pairwise_iff_getElem.1 h j k (by omega) hlt hj2 h1
set_option maxRecDepth 100000 in
set_option maxHeartbeats 4000000 in
theorem hopmay_any (w : World) (A : Option Addr) (len c : Nat) (L : List Int) (h : Rs VI w w.heap.size A len L) (hc : len ≤ c) (hcm : c ≤ maxLen) (hL : HopOk L) :
    Calls Tryz.prog 49 #[.slice A len c] w (PV (.bool true) w) := by
  have HR := Lib.hid h
  have HO := Lib.hid hL
  have hl := h.1
  have h1 : (1 : Int) ≤ len := by have := hL.2.2.1; omega
  have h2 : (len : Int) ≤ 16 := by have := hL.2.2.2; omega
  have hcc : (len : Int) ≤ c := by omega
  have HL := Lib.hid hl
  clear h hL hl hcm
  go_enter Tryz.func49, Tryz.ntmps49
  go_wp2_with fail
  go_loopw [7] (fun i wr => ∃ (k : Nat), k ≤ len ∧ i = .int .i64 k ∧ Chg (fun _ => False) w wr) (fun i _ => len - (intOf i).toNat)
  case atStart => exact ⟨0, by omega, rfl, Chg.refl _ _⟩
  case round =>
    obtain ⟨k, hk, rfl, hG⟩ := hrel
    have HG := Lib.hid hG
    clear hG
    by_cases hlt : k < len
    · obtain ⟨x, z, rfl, _, hz, hcz⟩ := (HR.out.keep HG.out (fun _ _ e => e)).at hlt
      obtain ⟨z0, z1⟩ := HO.out.1 z (List.mem_of_getElem? hz)
      unfold VI at hcz
      have hcont := containsI_any wr (some x) k c (L.take k) z (((HR.out.keep HG.out (fun _ _ e => e)).more HG.out.size).take k (by omega)) (by omega)
      rw [nodup_at HO.out.2.1 k z hz] at hcont
      have HC := Lib.hid hcont
      have hkc : (k : Int) ≤ c := by omega
      have hkc2 : k ≤ c := by omega
      clear hz hcont
      go_wp2_with fail
      (with_reducible refine HC.out.mono ?_)
      rintro en w2 ⟨rfl, rfl⟩
      clear hcz
      go_wp2_with fail
      go_roundw
      case measure => simp [intOf]; omega
      case rel => exact ⟨k + 1, by omega, by go_num, HG.out⟩
    · obtain rfl : k = len := by omega
      go_wp2_with fail
      go_ret
      exact ⟨rfl, HG.out⟩
/-- nothing is let go. -/
theorem delI_none (w : World) (A : Option Addr) (len c n : Nat) (caps : Array Value) (L : List Int) (h : Rs VI w w.heap.size A len L) (hL : len ≤ 100000) (hf : FnI w n caps L (fun _ => false)) :
    Calls Tryz.prog 143 #[.slice A len c, .func (.func n) #[] caps] w (PV (.slice A len c) w) := by
  have hi := indexFI_any w A len c n caps L _ h hL hf
  rw [indexP_no L (fun _ => false) (fun _ _ _ => rfl)] at hi
  clear h hf
  go_enter Tryz.func143, Tryz.ntmps143
  go_wp2_with fail
  (with_reducible refine hi.mono ?_)
  rintro e w1 ⟨rfl, G⟩
  have HG := Lib.hid G
  clear G hi
  go_wp2_with fail
  go_ret
  exact ⟨rfl, HG.out⟩
theorem cf144 (args : Array Value) (w' : World) : (callFunc 144 args).run Tryz.prog w' = .ok (.enter 144 args) w' := by kernel_rfl
theorem black0 (z : Int) (h0 : 0 ≤ z) (h1 : z ≤ 31) (b : Nat) (w : World) (hc : w.cell? ⟨b, 0, none⟩ = some (.int .u32 0)) : Calls Tryz.prog 144 #[.int .i64 z, .pointer (some ⟨b, 0, none⟩)] w (PV (.bool false) w) := by
  go_enter Tryz.func144, Tryz.ntmps144
  go_wp2_with fail
  go_ret
  exact ⟨ret_bool (by decide +kernel), Chg.refl _ _⟩
set_option maxRecDepth 100000 in
set_option maxHeartbeats 4000000 in
theorem open_any (w : World) (A : Option Addr) (len c : Nat) (L : List Int) (h : Rs VI w w.heap.size A len L) (hA : A = none → c = 0) (hc : len ≤ c) (hcm : c ≤ maxLen) (hL : HopOk L) :
    Calls Tryz.prog 94 #[.slice A len c, .int .u32 0] w (PNew VI 3 w L) := by
  have hl := h.1
  have hl16 : len ≤ 16 := by have := hL.2.2.2; omega
  have hl1 : 1 ≤ len := by have := hL.2.2.1; omega
  have g0 := Chg.alloc (fun _ => False) w (.cells #[.int .u32 0] 128)
  have hb0 := block_alloc w (.cells #[.int .u32 0] 128)
  have hm := hopmay_any _ A len c L ((h.keep g0 (fun _ _ e => e)).more g0.size) hc hcm hL
  have HM := Lib.hid hm
  have HB := Lib.hid (And.intro g0 hb0)
  have HR := Lib.hid h
  have HA := Lib.hid hA
  have HO := Lib.hid hL
  have HL := Lib.hid hl
  clear h hA hL hl g0 hb0 hm hcm
  go_enter Tryz.func94, Tryz.ntmps94
  go_wp2_with fail
  (with_reducible refine HM.out.mono ?_)
  rintro en w2 ⟨rfl, G2⟩
  have HG2 := Lib.hid (HB.out.1.trans G2)
  have HB2 := Lib.hid (Chg.keep G2 HB.out.2 (fun e => e))
  clear G2 HB HM
  go_wp2_with fail
  (with_reducible refine (cloneI_any w2 A len c L ((HR.out.keep HG2.out (fun _ _ e => e)).more HG2.out.size) HA.out (by omega)).mono ?_)
  rintro en w3 ⟨v3, rfl, hown, G3⟩
  rw [HL.out] at hown
  obtain ⟨A3, c3, rfl, hr3, _⟩ := Rs.of_own (V := VI) (zs := L) hown
  have HG3 := Lib.hid (HG2.out.trans G3)
  have HB3 := Lib.hid (Chg.keep G3 HB2.out (fun e => e))
  have HO3 := Lib.hid (own_down hown HG2.out.size)
  have hdel := delI_none w3 A3 len c3 144 #[.pointer (some ⟨w.heap.size, 0, none⟩)] L hr3 (by omega) ⟨cf144, fun z W hz gW => by
    have hzb := HO.out.1 z hz
    exact black0 z hzb.1 hzb.2 w.heap.size W (by
      rw [cell_of_block (Chg.keep gW HB3.out (fun e => e))]; rfl)⟩
  have HD := Lib.hid hdel
  clear hown hr3 G3 HG2 HB2 hdel
  go_wp2_with fail
  (with_reducible refine HD.out.mono ?_)
  rintro en w4 ⟨rfl, G4⟩
  have HX := Lib.hid (And.intro (own_chg HO3.out G4 (fun _ _ e => e)) (HG3.out.trans G4))
  have hz : (len == 0) = false := by simp; omega
  have hz2 : ((len : Int) == 0) = false := by simp; omega
  clear G4 HO3 HG3 HD HB3
  go_wp2_with fail
  go_ret
  refine ⟨_, rfl, ?_, HX.out.2⟩
  rw [HL.out]; exact HX.out.1
/-- the channel of a slot. -/
def chanOf (L : List Int) (asn : Int) : Int := L.getD (asn % (L.length : Int)).toNat 0
set_option maxRecDepth 100000 in
set_option maxHeartbeats 4000000 in
theorem channel_any (w : World) (A : Option Addr) (len c : Nat) (L : List Int) (asn : Int) (h : Rs VI w w.heap.size A len L) (hA : A = none → c = 0) (hc : len ≤ c) (hcm : c ≤ maxLen) (hL : HopOk L) (h0 : 0 ≤ asn) (h1 : asn < 1099511627776) :
    Calls Tryz.prog 57 #[.slice A len c, .int .u32 0, .int .i64 asn, .int .i64 0] w (PV (.int .i64 (chanOf L asn)) w) := by
  have hl := h.1
  have hl16 : len ≤ 16 := by have := hL.2.2.2; omega
  have hl1 : 1 ≤ len := by have := hL.2.2.1; omega
  have hop := open_any w A len c L h hA hc hcm hL
  have HO := Lib.hid hop
  have HL := Lib.hid hl
  clear h hA hL hop hcm hl
  go_enter Tryz.func57, Tryz.ntmps57
  go_wp2_with fail
  (with_reducible refine HO.out.mono ?_)
  rintro en w2 ⟨v2, rfl, hown, G2⟩
  rw [HL.out] at hown
  obtain ⟨A2, c2, rfl, hr2, _⟩ := Rs.of_own (V := VI) (zs := L) hown
  obtain ⟨q, hq⟩ : ∃ q : Nat, q = (asn % (len : Int)).toNat := ⟨_, rfl⟩
  have hm := Int.emod_lt_of_pos asn (show (0 : Int) < len by omega)
  have hm0 := Int.emod_nonneg asn (show (len : Int) ≠ 0 by omega)
  have hqi : (q : Int) = asn % (len : Int) := by rw [hq]; omega
  have hql : q < len := by omega
  obtain ⟨x, z, rfl, _, hz, hcz⟩ := hr2.at hql
  unfold VI at hcz
  have hch : chanOf L asn = z := by
    unfold chanOf
    rw [HL.out, ← hq, List.getD_eq_getElem?_getD, hz]; rfl
  have HCH := Lib.hid hch
  have HG2 := Lib.hid G2
  have hz1 : (len == 0) = false := by simp; omega
  have hz2 : ((len : Int) == 0) = false := by simp; omega
  have e1 : asn.tmod (len : Int) = (q : Int) := by rw [Int.tmod_eq_emod_of_nonneg h0, hqi]
  have i1 : (q : Int) < (len : Int) := by omega
  have e2 : asn % (len : Int) = (q : Int) := hqi.symm
  clear hown hr2 hq hm hm0 hqi hz hch G2 HO
  go_wp2_with fail
  go_ret
  rw [HCH.out]
  exact ⟨rfl, HG2.out⟩
end Go.Proofs.YtnpihllannobgaaGreatDoor
