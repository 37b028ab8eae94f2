/- What frame.May comes to. No condition. -/
import Derived.Test.YtnpihllannobgaaGreatDoorG08
namespace Go.Proofs.YtnpihllannobgaaGreatDoor
set_option linter.unusedVariables false
set_option linter.unusedSimpArgs false
open Go.ChangeShapes Go.WideShapes Go.ChangeAt Go.RowKit

theorem fnode_any (n : Int) (w : World) : Calls Tryz.prog 147 #[.int .i64 n] w fun e w' => e = .returned (.bool (nodeB n)) ∧ w' = w := by
  by_cases h0 : 0 ≤ n
  · by_cases h1 : n < 16
    · have e : nodeB n = true := inR_yes h0 (by omega)
      rw [e]
      clear e
      go_enter Tryz.func147, Tryz.ntmps147
      go_wp2_with fail
      go_ret
      exact ⟨rfl, rfl⟩
    · have e : nodeB n = false := inR_high (by omega)
      have h1 : 16 ≤ n := by omega
      rw [e]
      clear e
      go_enter Tryz.func147, Tryz.ntmps147
      go_wp2_with fail
      go_ret
      exact ⟨rfl, rfl⟩
  · have e : nodeB n = false := inR_low (by omega)
    have h0 : n < 0 := by omega
    rw [e]
    clear e
    go_enter Tryz.func147, Tryz.ntmps147
    go_wp2_with fail
    go_ret
    exact ⟨rfl, rfl⟩
/-- a frame's value; iv, dv: its elements, its data. -/
def frV (f : Fr) (iv dv : Value) : Value := .agg #[.int .i64 f.kind, .int .i64 f.src, .int .i64 f.dst, .int .i64 f.seq, iv, dv]
def FO (w : World) (own : Cls) (v : Value) (f : Fr) : Prop := ∃ iv dv, v = frV f iv dv ∧ IeO w own iv f.ies ∧ BO w own dv f.data
theorem FO.keep {S : Nat → Prop} {w w' : World} {own : Cls} {v : Value} {f : Fr} (h : FO w own v f) (g : Chg S w w') (hS : ∀ j, own j = 0 → ¬ S j) : FO w' own v f := by
  obtain ⟨iv, dv, h1, h2, h3⟩ := h
  exact ⟨iv, dv, h1, h2.keep g hS, h3.keep g hS⟩
theorem FO.ext {w : World} {own own' : Cls} {v : Value} {f : Fr} (h : FO w own v f) (x : Ext w own own') : FO w own' v f := by
  obtain ⟨iv, dv, h1, h2, h3⟩ := h
  exact ⟨iv, dv, h1, h2.ext x, h3.ext x⟩
theorem neD (n : Nat) : ((n : Int) == 0) = decide (n = 0) := by rw [Bool.eq_iff_iff]; simp
theorem cell6 {w : World} {b : Nat} {v0 v1 v2 v3 v4 v5 : Value} {t : TypeId} (h : w.heap[b]? = some (.cells #[v0, v1, v2, v3, v4, v5] t (0, 0))) :
    w.cell? ⟨b, 0, none⟩ = some v0 ∧ w.cell? ⟨b, 1, none⟩ = some v1 ∧ w.cell? ⟨b, 2, none⟩ = some v2 ∧ w.cell? ⟨b, 3, none⟩ = some v3 ∧ w.cell? ⟨b, 4, none⟩ = some v4 ∧ w.cell? ⟨b, 5, none⟩ = some v5 := by
  refine ⟨?_, ?_, ?_, ?_, ?_, ?_⟩ <;> (rw [cell_of_block h]; rfl)
set_option maxRecDepth 100000 in
set_option maxHeartbeats 8000000 in
theorem says_any (w : World) (own : Cls) (f : Fr) (iv dv : Value) (hi : IeO w own iv f.ies) (hd : BO w own dv f.data) (hE : f.ies.length ≤ 100000) (hT : f.data.length ≤ 100000) (hll : ∀ e ∈ f.ies, e.list.length ≤ 100000) :
    Calls Tryz.prog 151 #[frV f iv dv] w (PV (.bool (saysF f)) w) := by
  have HI := Lib.hid hi
  have HD := Lib.hid hd
  obtain ⟨A, c, rfl⟩ := hi.val
  obtain ⟨⟨B, cb, rfl, _⟩, _⟩ := hd
  obtain ⟨K, S, D, Q, E, T⟩ := f
  simp only [frV]
  simp only at HI HD
  obtain ⟨m, hm⟩ : ∃ m, m = T.length := ⟨_, rfl⟩
  obtain ⟨n, hn⟩ : ∃ n, n = E.length := ⟨_, rfl⟩
  simp only [← hm, ← hn] at HI HD ⊢
  have HM := Lib.hid (And.intro hm hn)
  simp only at hll hE hT
  have HLL := Lib.hid (And.intro hll (And.intro hE hT))
  have hn3 : (n : Int) ≤ 100000 := by omega
  have hm3 : (m : Int) ≤ 100000 := by omega
  clear hm hn hi hll hE hT
  by_cases hk : K = 2
  · subst hk
    have HK := Lib.hid (rfl : (2 : Int) = 2)
    by_cases h64 : D = 64
    · have h1 : (D != 64) = false := by simpa using h64
      have H1 := Lib.hid h1
      clear h64
      have HV := Lib.hid (show saysF ⟨2, S, D, Q, E, T⟩ = false from by unfold saysF; simp [H1.out])
      have ga : Chg (fun _ => False) w (w.alloc (.cells #[.int .i64 2, .int .i64 S, .int .i64 D, .int .i64 Q, .slice A n c, .slice B m cb] 71)) := Chg.alloc _ _ _
      have HGA := Lib.hid ga
      have hfi := find_any _ own (.slice A n c) E 1 (HI.out.keep ga (fun _ _ e => e)) HLL.out.2.1 HLL.out.1
      obtain ⟨X, hX⟩ : ∃ X, findE E 1 = X := ⟨_, rfl⟩
      rw [hX] at hfi
      have HX := Lib.hid hX
      have HFI := Lib.hid hfi
      have hba := block_alloc w (.cells #[.int .i64 2, .int .i64 S, .int .i64 D, .int .i64 Q, .slice A n c, .slice B m cb] 71)
      have HBA := Lib.hid hba
      clear ga hfi hX hba 
      go_enter Tryz.func151, Tryz.ntmps151
      go_wp2_with fail
      (with_reducible refine HFI.out.mono ?_)
      rintro en w2 ⟨lv, rfl, hown, G2⟩
      have hblk := Chg.keep G2 HBA.out (fun e => e)
      obtain ⟨b0, b1, b2, b3, b4, b5⟩ := cell6 hblk
      have hsz := lt_of_block hblk
      have hne : ¬ (w.heap.size = w2.heap.size) := by omega
      clear hblk
      unfold elV
      obtain ⟨A2, c2, rfl, _⟩ := Rs.of_own (V := VI) (zs := (X.getD el0).list) hown
      have HG2 := Lib.hid (HGA.out.trans G2)
      clear hown G2
      go_wp2_with fail
      go_ret
      rw [HV.out]
      exact ⟨rfl, HG2.out.trans (Chg.alloc _ _ _)⟩
    · have h1 : (D != 64) = true := by simpa using h64
      have H1 := Lib.hid h1
      clear h64
      by_cases hT0 : m = 0
      · have hz : ((m : Int) == 0) = true := by rw [neD]; simpa using hT0
        have hz3 : decide (0 < m) = false := by simpa using hT0
        have hz1 : T = [] := List.eq_nil_of_length_eq_zero (by have := HM.out.1; omega)
        have HZ1 := Lib.hid hz1
        clear hz1 hT0
        have HV := Lib.hid (show saysF ⟨2, S, D, Q, E, T⟩ = true from by unfold saysF; simp [H1.out, HZ1.out])
        have ga : Chg (fun _ => False) w (w.alloc (.cells #[.int .i64 2, .int .i64 S, .int .i64 D, .int .i64 Q, .slice A n c, .slice B m cb] 71)) := Chg.alloc _ _ _
        have HGA := Lib.hid ga
        have hfi := find_any _ own (.slice A n c) E 1 (HI.out.keep ga (fun _ _ e => e)) HLL.out.2.1 HLL.out.1
        obtain ⟨X, hX⟩ : ∃ X, findE E 1 = X := ⟨_, rfl⟩
        rw [hX] at hfi
        have HX := Lib.hid hX
        have HFI := Lib.hid hfi
        have hba := block_alloc w (.cells #[.int .i64 2, .int .i64 S, .int .i64 D, .int .i64 Q, .slice A n c, .slice B m cb] 71)
        have HBA := Lib.hid hba
        clear ga hfi hX hba 
        go_enter Tryz.func151, Tryz.ntmps151
        go_wp2_with fail
        (with_reducible refine HFI.out.mono ?_)
        rintro en w2 ⟨lv, rfl, hown, G2⟩
        have hblk := Chg.keep G2 HBA.out (fun e => e)
        obtain ⟨b0, b1, b2, b3, b4, b5⟩ := cell6 hblk
        have hsz := lt_of_block hblk
        have hne : ¬ (w.heap.size = w2.heap.size) := by omega
        clear hblk
        unfold elV
        obtain ⟨A2, c2, rfl, _⟩ := Rs.of_own (V := VI) (zs := (X.getD el0).list) hown
        have HG2 := Lib.hid (HGA.out.trans G2)
        clear hown G2
        go_wp2_with fail
        go_ret
        rw [HV.out]
        exact ⟨rfl, HG2.out.trans (Chg.alloc _ _ _)⟩
      · have hz : ((m : Int) == 0) = false := by rw [neD]; simpa using hT0
        have hz3 : decide (0 < m) = true := by simp; omega
        have hz1 : ¬ T = [] := fun e => by have := HM.out.1; rw [e] at this; exact hT0 this
        have HZ1 := Lib.hid hz1
        clear hz1 hT0
        have HV := Lib.hid (show saysF ⟨2, S, D, Q, E, T⟩ = false from by unfold saysF; simp [H1.out, HZ1.out])
        have ga : Chg (fun _ => False) w (w.alloc (.cells #[.int .i64 2, .int .i64 S, .int .i64 D, .int .i64 Q, .slice A n c, .slice B m cb] 71)) := Chg.alloc _ _ _
        have HGA := Lib.hid ga
        have hfi := find_any _ own (.slice A n c) E 1 (HI.out.keep ga (fun _ _ e => e)) HLL.out.2.1 HLL.out.1
        obtain ⟨X, hX⟩ : ∃ X, findE E 1 = X := ⟨_, rfl⟩
        rw [hX] at hfi
        have HX := Lib.hid hX
        have HFI := Lib.hid hfi
        have hba := block_alloc w (.cells #[.int .i64 2, .int .i64 S, .int .i64 D, .int .i64 Q, .slice A n c, .slice B m cb] 71)
        have HBA := Lib.hid hba
        clear ga hfi hX hba 
        go_enter Tryz.func151, Tryz.ntmps151
        go_wp2_with fail
        (with_reducible refine HFI.out.mono ?_)
        rintro en w2 ⟨lv, rfl, hown, G2⟩
        have hblk := Chg.keep G2 HBA.out (fun e => e)
        obtain ⟨b0, b1, b2, b3, b4, b5⟩ := cell6 hblk
        have hsz := lt_of_block hblk
        have hne : ¬ (w.heap.size = w2.heap.size) := by omega
        clear hblk
        unfold elV
        obtain ⟨A2, c2, rfl, _⟩ := Rs.of_own (V := VI) (zs := (X.getD el0).list) hown
        have HG2 := Lib.hid (HGA.out.trans G2)
        clear hown G2
        go_wp2_with fail
        go_ret
        rw [HV.out]
        exact ⟨rfl, HG2.out.trans (Chg.alloc _ _ _)⟩
  by_cases hk : K = 4
  · subst hk
    have HK := Lib.hid (rfl : (4 : Int) = 4)
    by_cases h64 : D = 64
    · have h1 : (D != 64) = false := by simpa using h64
      have H1 := Lib.hid h1
      clear h64
      have HV := Lib.hid (show saysF ⟨4, S, D, Q, E, T⟩ = false from by unfold saysF; simp [H1.out])
      have ga : Chg (fun _ => False) w (w.alloc (.cells #[.int .i64 4, .int .i64 S, .int .i64 D, .int .i64 Q, .slice A n c, .slice B m cb] 71)) := Chg.alloc _ _ _
      have HGA := Lib.hid ga
      have hfi := find_any _ own (.slice A n c) E 1 (HI.out.keep ga (fun _ _ e => e)) HLL.out.2.1 HLL.out.1
      obtain ⟨X, hX⟩ : ∃ X, findE E 1 = X := ⟨_, rfl⟩
      rw [hX] at hfi
      have HX := Lib.hid hX
      have HFI := Lib.hid hfi
      have hba := block_alloc w (.cells #[.int .i64 4, .int .i64 S, .int .i64 D, .int .i64 Q, .slice A n c, .slice B m cb] 71)
      have HBA := Lib.hid hba
      clear ga hfi hX hba 
      go_enter Tryz.func151, Tryz.ntmps151
      go_wp2_with fail
      (with_reducible refine HFI.out.mono ?_)
      rintro en w2 ⟨lv, rfl, hown, G2⟩
      have hblk := Chg.keep G2 HBA.out (fun e => e)
      obtain ⟨b0, b1, b2, b3, b4, b5⟩ := cell6 hblk
      have hsz := lt_of_block hblk
      have hne : ¬ (w.heap.size = w2.heap.size) := by omega
      clear hblk
      unfold elV
      obtain ⟨A2, c2, rfl, _⟩ := Rs.of_own (V := VI) (zs := (X.getD el0).list) hown
      have HG2 := Lib.hid (HGA.out.trans G2)
      clear hown G2
      go_wp2_with fail
      go_ret
      rw [HV.out]
      exact ⟨rfl, HG2.out.trans (Chg.alloc _ _ _)⟩
    · have h1 : (D != 64) = true := by simpa using h64
      have H1 := Lib.hid h1
      clear h64
      by_cases hT0 : m = 0
      · have hz : ((m : Int) == 0) = true := by rw [neD]; simpa using hT0
        have hz3 : decide (0 < m) = false := by simpa using hT0
        have hz1 : T = [] := List.eq_nil_of_length_eq_zero (by have := HM.out.1; omega)
        have HZ1 := Lib.hid hz1
        clear hz1 hT0
        have HV := Lib.hid (show saysF ⟨4, S, D, Q, E, T⟩ = true from by unfold saysF; simp [H1.out, HZ1.out])
        have ga : Chg (fun _ => False) w (w.alloc (.cells #[.int .i64 4, .int .i64 S, .int .i64 D, .int .i64 Q, .slice A n c, .slice B m cb] 71)) := Chg.alloc _ _ _
        have HGA := Lib.hid ga
        have hfi := find_any _ own (.slice A n c) E 1 (HI.out.keep ga (fun _ _ e => e)) HLL.out.2.1 HLL.out.1
        obtain ⟨X, hX⟩ : ∃ X, findE E 1 = X := ⟨_, rfl⟩
        rw [hX] at hfi
        have HX := Lib.hid hX
        have HFI := Lib.hid hfi
        have hba := block_alloc w (.cells #[.int .i64 4, .int .i64 S, .int .i64 D, .int .i64 Q, .slice A n c, .slice B m cb] 71)
        have HBA := Lib.hid hba
        clear ga hfi hX hba 
        go_enter Tryz.func151, Tryz.ntmps151
        go_wp2_with fail
        (with_reducible refine HFI.out.mono ?_)
        rintro en w2 ⟨lv, rfl, hown, G2⟩
        have hblk := Chg.keep G2 HBA.out (fun e => e)
        obtain ⟨b0, b1, b2, b3, b4, b5⟩ := cell6 hblk
        have hsz := lt_of_block hblk
        have hne : ¬ (w.heap.size = w2.heap.size) := by omega
        clear hblk
        unfold elV
        obtain ⟨A2, c2, rfl, _⟩ := Rs.of_own (V := VI) (zs := (X.getD el0).list) hown
        have HG2 := Lib.hid (HGA.out.trans G2)
        clear hown G2
        go_wp2_with fail
        go_ret
        rw [HV.out]
        exact ⟨rfl, HG2.out.trans (Chg.alloc _ _ _)⟩
      · have hz : ((m : Int) == 0) = false := by rw [neD]; simpa using hT0
        have hz3 : decide (0 < m) = true := by simp; omega
        have hz1 : ¬ T = [] := fun e => by have := HM.out.1; rw [e] at this; exact hT0 this
        have HZ1 := Lib.hid hz1
        clear hz1 hT0
        have HV := Lib.hid (show saysF ⟨4, S, D, Q, E, T⟩ = false from by unfold saysF; simp [H1.out, HZ1.out])
        have ga : Chg (fun _ => False) w (w.alloc (.cells #[.int .i64 4, .int .i64 S, .int .i64 D, .int .i64 Q, .slice A n c, .slice B m cb] 71)) := Chg.alloc _ _ _
        have HGA := Lib.hid ga
        have hfi := find_any _ own (.slice A n c) E 1 (HI.out.keep ga (fun _ _ e => e)) HLL.out.2.1 HLL.out.1
        obtain ⟨X, hX⟩ : ∃ X, findE E 1 = X := ⟨_, rfl⟩
        rw [hX] at hfi
        have HX := Lib.hid hX
        have HFI := Lib.hid hfi
        have hba := block_alloc w (.cells #[.int .i64 4, .int .i64 S, .int .i64 D, .int .i64 Q, .slice A n c, .slice B m cb] 71)
        have HBA := Lib.hid hba
        clear ga hfi hX hba 
        go_enter Tryz.func151, Tryz.ntmps151
        go_wp2_with fail
        (with_reducible refine HFI.out.mono ?_)
        rintro en w2 ⟨lv, rfl, hown, G2⟩
        have hblk := Chg.keep G2 HBA.out (fun e => e)
        obtain ⟨b0, b1, b2, b3, b4, b5⟩ := cell6 hblk
        have hsz := lt_of_block hblk
        have hne : ¬ (w.heap.size = w2.heap.size) := by omega
        clear hblk
        unfold elV
        obtain ⟨A2, c2, rfl, _⟩ := Rs.of_own (V := VI) (zs := (X.getD el0).list) hown
        have HG2 := Lib.hid (HGA.out.trans G2)
        clear hown G2
        go_wp2_with fail
        go_ret
        rw [HV.out]
        exact ⟨rfl, HG2.out.trans (Chg.alloc _ _ _)⟩
  by_cases hk : K = 3
  · subst hk
    by_cases h64 : D = 64
    · have h1 : (D != 64) = false := by simpa using h64
      have H1 := Lib.hid h1
      clear h64
      by_cases hT0 : m = 0
      · have hz : ((m : Int) == 0) = true := by rw [neD]; simpa using hT0
        have hz3 : decide (0 < m) = false := by simpa using hT0
        have hz1 : T = [] := List.eq_nil_of_length_eq_zero (by have := HM.out.1; omega)
        have HZ1 := Lib.hid hz1
        clear hz1 hT0
        have HV := Lib.hid (show saysF ⟨3, S, D, Q, E, T⟩ = (findE E 1).isSome from by unfold saysF; simp [H1.out, HZ1.out])
        have ga : Chg (fun _ => False) w (w.alloc (.cells #[.int .i64 3, .int .i64 S, .int .i64 D, .int .i64 Q, .slice A n c, .slice B m cb] 71)) := Chg.alloc _ _ _
        have HGA := Lib.hid ga
        have hfi := find_any _ own (.slice A n c) E 1 (HI.out.keep ga (fun _ _ e => e)) HLL.out.2.1 HLL.out.1
        obtain ⟨X, hX⟩ : ∃ X, findE E 1 = X := ⟨_, rfl⟩
        rw [hX] at hfi
        have HX := Lib.hid hX
        have HFI := Lib.hid hfi
        have hba := block_alloc w (.cells #[.int .i64 3, .int .i64 S, .int .i64 D, .int .i64 Q, .slice A n c, .slice B m cb] 71)
        have HBA := Lib.hid hba
        clear ga hfi hX hba 
        go_enter Tryz.func151, Tryz.ntmps151
        go_wp2_with fail
        (with_reducible refine HFI.out.mono ?_)
        rintro en w2 ⟨lv, rfl, hown, G2⟩
        have hblk := Chg.keep G2 HBA.out (fun e => e)
        obtain ⟨b0, b1, b2, b3, b4, b5⟩ := cell6 hblk
        have hsz := lt_of_block hblk
        have hne : ¬ (w.heap.size = w2.heap.size) := by omega
        clear hblk
        unfold elV
        obtain ⟨A2, c2, rfl, _⟩ := Rs.of_own (V := VI) (zs := (X.getD el0).list) hown
        have HG2 := Lib.hid (HGA.out.trans G2)
        clear hown G2
        go_wp2_with fail
        go_ret
        rw [HV.out]
        rw [HX.out]
        exact ⟨rfl, HG2.out.trans (Chg.alloc _ _ _)⟩
      · have hz : ((m : Int) == 0) = false := by rw [neD]; simpa using hT0
        have hz3 : decide (0 < m) = true := by simp; omega
        have hz1 : ¬ T = [] := fun e => by have := HM.out.1; rw [e] at this; exact hT0 this
        have HZ1 := Lib.hid hz1
        clear hz1 hT0
        have HV := Lib.hid (show saysF ⟨3, S, D, Q, E, T⟩ = false from by unfold saysF; simp [H1.out, HZ1.out])
        have ga : Chg (fun _ => False) w (w.alloc (.cells #[.int .i64 3, .int .i64 S, .int .i64 D, .int .i64 Q, .slice A n c, .slice B m cb] 71)) := Chg.alloc _ _ _
        have HGA := Lib.hid ga
        have hfi := find_any _ own (.slice A n c) E 1 (HI.out.keep ga (fun _ _ e => e)) HLL.out.2.1 HLL.out.1
        obtain ⟨X, hX⟩ : ∃ X, findE E 1 = X := ⟨_, rfl⟩
        rw [hX] at hfi
        have HX := Lib.hid hX
        have HFI := Lib.hid hfi
        have hba := block_alloc w (.cells #[.int .i64 3, .int .i64 S, .int .i64 D, .int .i64 Q, .slice A n c, .slice B m cb] 71)
        have HBA := Lib.hid hba
        clear ga hfi hX hba 
        go_enter Tryz.func151, Tryz.ntmps151
        go_wp2_with fail
        (with_reducible refine HFI.out.mono ?_)
        rintro en w2 ⟨lv, rfl, hown, G2⟩
        have hblk := Chg.keep G2 HBA.out (fun e => e)
        obtain ⟨b0, b1, b2, b3, b4, b5⟩ := cell6 hblk
        have hsz := lt_of_block hblk
        have hne : ¬ (w.heap.size = w2.heap.size) := by omega
        clear hblk
        unfold elV
        obtain ⟨A2, c2, rfl, _⟩ := Rs.of_own (V := VI) (zs := (X.getD el0).list) hown
        have HG2 := Lib.hid (HGA.out.trans G2)
        clear hown G2
        go_wp2_with fail
        go_ret
        rw [HV.out]
        exact ⟨rfl, HG2.out.trans (Chg.alloc _ _ _)⟩
    · have h1 : (D != 64) = true := by simpa using h64
      have H1 := Lib.hid h1
      clear h64
      have HV := Lib.hid (show saysF ⟨3, S, D, Q, E, T⟩ = false from by unfold saysF; simp [H1.out])
      have ga : Chg (fun _ => False) w (w.alloc (.cells #[.int .i64 3, .int .i64 S, .int .i64 D, .int .i64 Q, .slice A n c, .slice B m cb] 71)) := Chg.alloc _ _ _
      have HGA := Lib.hid ga
      have hfi := find_any _ own (.slice A n c) E 1 (HI.out.keep ga (fun _ _ e => e)) HLL.out.2.1 HLL.out.1
      obtain ⟨X, hX⟩ : ∃ X, findE E 1 = X := ⟨_, rfl⟩
      rw [hX] at hfi
      have HX := Lib.hid hX
      have HFI := Lib.hid hfi
      have hba := block_alloc w (.cells #[.int .i64 3, .int .i64 S, .int .i64 D, .int .i64 Q, .slice A n c, .slice B m cb] 71)
      have HBA := Lib.hid hba
      clear ga hfi hX hba 
      go_enter Tryz.func151, Tryz.ntmps151
      go_wp2_with fail
      (with_reducible refine HFI.out.mono ?_)
      rintro en w2 ⟨lv, rfl, hown, G2⟩
      have hblk := Chg.keep G2 HBA.out (fun e => e)
      obtain ⟨b0, b1, b2, b3, b4, b5⟩ := cell6 hblk
      have hsz := lt_of_block hblk
      have hne : ¬ (w.heap.size = w2.heap.size) := by omega
      clear hblk
      unfold elV
      obtain ⟨A2, c2, rfl, _⟩ := Rs.of_own (V := VI) (zs := (X.getD el0).list) hown
      have HG2 := Lib.hid (HGA.out.trans G2)
      clear hown G2
      go_wp2_with fail
      go_ret
      rw [HV.out]
      exact ⟨rfl, HG2.out.trans (Chg.alloc _ _ _)⟩
  by_cases hk : K = 1
  · subst hk
    by_cases h64 : D = 64
    · have h1 : (D != 64) = false := by simpa using h64
      have H1 := Lib.hid h1
      clear h64
      have HV := Lib.hid (show saysF ⟨1, S, D, Q, E, T⟩ = false from by unfold saysF; simp [H1.out])
      have ga : Chg (fun _ => False) w (w.alloc (.cells #[.int .i64 1, .int .i64 S, .int .i64 D, .int .i64 Q, .slice A n c, .slice B m cb] 71)) := Chg.alloc _ _ _
      have HGA := Lib.hid ga
      have hfi := find_any _ own (.slice A n c) E 1 (HI.out.keep ga (fun _ _ e => e)) HLL.out.2.1 HLL.out.1
      obtain ⟨X, hX⟩ : ∃ X, findE E 1 = X := ⟨_, rfl⟩
      rw [hX] at hfi
      have HX := Lib.hid hX
      have HFI := Lib.hid hfi
      have hba := block_alloc w (.cells #[.int .i64 1, .int .i64 S, .int .i64 D, .int .i64 Q, .slice A n c, .slice B m cb] 71)
      have HBA := Lib.hid hba
      clear ga hfi hX hba 
      go_enter Tryz.func151, Tryz.ntmps151
      go_wp2_with fail
      (with_reducible refine HFI.out.mono ?_)
      rintro en w2 ⟨lv, rfl, hown, G2⟩
      have hblk := Chg.keep G2 HBA.out (fun e => e)
      obtain ⟨b0, b1, b2, b3, b4, b5⟩ := cell6 hblk
      have hsz := lt_of_block hblk
      have hne : ¬ (w.heap.size = w2.heap.size) := by omega
      clear hblk
      unfold elV
      obtain ⟨A2, c2, rfl, _⟩ := Rs.of_own (V := VI) (zs := (X.getD el0).list) hown
      have HG2 := Lib.hid (HGA.out.trans G2)
      clear hown G2
      go_wp2_with fail
      go_ret
      rw [HV.out]
      exact ⟨rfl, HG2.out.trans (Chg.alloc _ _ _)⟩
    · have h1 : (D != 64) = true := by simpa using h64
      have H1 := Lib.hid h1
      clear h64
      by_cases hT0 : m = 0
      · have hz : ((m : Int) == 0) = true := by rw [neD]; simpa using hT0
        have hz3 : decide (0 < m) = false := by simpa using hT0
        have hz1 : T = [] := List.eq_nil_of_length_eq_zero (by have := HM.out.1; omega)
        have HZ1 := Lib.hid hz1
        clear hz1 hT0
        have HV := Lib.hid (show saysF ⟨1, S, D, Q, E, T⟩ = false from by unfold saysF; simp [H1.out, HZ1.out])
        have ga : Chg (fun _ => False) w (w.alloc (.cells #[.int .i64 1, .int .i64 S, .int .i64 D, .int .i64 Q, .slice A n c, .slice B m cb] 71)) := Chg.alloc _ _ _
        have HGA := Lib.hid ga
        have hfi := find_any _ own (.slice A n c) E 1 (HI.out.keep ga (fun _ _ e => e)) HLL.out.2.1 HLL.out.1
        obtain ⟨X, hX⟩ : ∃ X, findE E 1 = X := ⟨_, rfl⟩
        rw [hX] at hfi
        have HX := Lib.hid hX
        have HFI := Lib.hid hfi
        have hba := block_alloc w (.cells #[.int .i64 1, .int .i64 S, .int .i64 D, .int .i64 Q, .slice A n c, .slice B m cb] 71)
        have HBA := Lib.hid hba
        clear ga hfi hX hba 
        go_enter Tryz.func151, Tryz.ntmps151
        go_wp2_with fail
        (with_reducible refine HFI.out.mono ?_)
        rintro en w2 ⟨lv, rfl, hown, G2⟩
        have hblk := Chg.keep G2 HBA.out (fun e => e)
        obtain ⟨b0, b1, b2, b3, b4, b5⟩ := cell6 hblk
        have hsz := lt_of_block hblk
        have hne : ¬ (w.heap.size = w2.heap.size) := by omega
        clear hblk
        unfold elV
        obtain ⟨A2, c2, rfl, _⟩ := Rs.of_own (V := VI) (zs := (X.getD el0).list) hown
        have HG2 := Lib.hid (HGA.out.trans G2)
        clear hown G2
        go_wp2_with fail
        go_ret
        rw [HV.out]
        exact ⟨rfl, HG2.out.trans (Chg.alloc _ _ _)⟩
      · have hz : ((m : Int) == 0) = false := by rw [neD]; simpa using hT0
        have hz3 : decide (0 < m) = true := by simp; omega
        have hz1 : ¬ T = [] := fun e => by have := HM.out.1; rw [e] at this; exact hT0 this
        have HZ1 := Lib.hid hz1
        clear hz1 hT0
        have HV := Lib.hid (show saysF ⟨1, S, D, Q, E, T⟩ = true from by unfold saysF; simp [H1.out, HZ1.out])
        have ga : Chg (fun _ => False) w (w.alloc (.cells #[.int .i64 1, .int .i64 S, .int .i64 D, .int .i64 Q, .slice A n c, .slice B m cb] 71)) := Chg.alloc _ _ _
        have HGA := Lib.hid ga
        have hfi := find_any _ own (.slice A n c) E 1 (HI.out.keep ga (fun _ _ e => e)) HLL.out.2.1 HLL.out.1
        obtain ⟨X, hX⟩ : ∃ X, findE E 1 = X := ⟨_, rfl⟩
        rw [hX] at hfi
        have HX := Lib.hid hX
        have HFI := Lib.hid hfi
        have hba := block_alloc w (.cells #[.int .i64 1, .int .i64 S, .int .i64 D, .int .i64 Q, .slice A n c, .slice B m cb] 71)
        have HBA := Lib.hid hba
        clear ga hfi hX hba 
        go_enter Tryz.func151, Tryz.ntmps151
        go_wp2_with fail
        (with_reducible refine HFI.out.mono ?_)
        rintro en w2 ⟨lv, rfl, hown, G2⟩
        have hblk := Chg.keep G2 HBA.out (fun e => e)
        obtain ⟨b0, b1, b2, b3, b4, b5⟩ := cell6 hblk
        have hsz := lt_of_block hblk
        have hne : ¬ (w.heap.size = w2.heap.size) := by omega
        clear hblk
        unfold elV
        obtain ⟨A2, c2, rfl, _⟩ := Rs.of_own (V := VI) (zs := (X.getD el0).list) hown
        have HG2 := Lib.hid (HGA.out.trans G2)
        clear hown G2
        go_wp2_with fail
        go_ret
        rw [HV.out]
        exact ⟨rfl, HG2.out.trans (Chg.alloc _ _ _)⟩
  by_cases hk : K = 5
  · subst hk
    by_cases h64 : D = 64
    · have h1 : (D != 64) = false := by simpa using h64
      have H1 := Lib.hid h1
      clear h64
      have HV := Lib.hid (show saysF ⟨5, S, D, Q, E, T⟩ = false from by unfold saysF; simp [H1.out])
      have ga : Chg (fun _ => False) w (w.alloc (.cells #[.int .i64 5, .int .i64 S, .int .i64 D, .int .i64 Q, .slice A n c, .slice B m cb] 71)) := Chg.alloc _ _ _
      have HGA := Lib.hid ga
      have hfi := find_any _ own (.slice A n c) E 1 (HI.out.keep ga (fun _ _ e => e)) HLL.out.2.1 HLL.out.1
      obtain ⟨X, hX⟩ : ∃ X, findE E 1 = X := ⟨_, rfl⟩
      rw [hX] at hfi
      have HX := Lib.hid hX
      have HFI := Lib.hid hfi
      have hba := block_alloc w (.cells #[.int .i64 5, .int .i64 S, .int .i64 D, .int .i64 Q, .slice A n c, .slice B m cb] 71)
      have HBA := Lib.hid hba
      clear ga hfi hX hba 
      go_enter Tryz.func151, Tryz.ntmps151
      go_wp2_with fail
      (with_reducible refine HFI.out.mono ?_)
      rintro en w2 ⟨lv, rfl, hown, G2⟩
      have hblk := Chg.keep G2 HBA.out (fun e => e)
      obtain ⟨b0, b1, b2, b3, b4, b5⟩ := cell6 hblk
      have hsz := lt_of_block hblk
      have hne : ¬ (w.heap.size = w2.heap.size) := by omega
      clear hblk
      unfold elV
      obtain ⟨A2, c2, rfl, _⟩ := Rs.of_own (V := VI) (zs := (X.getD el0).list) hown
      have HG2 := Lib.hid (HGA.out.trans G2)
      clear hown G2
      go_wp2_with fail
      go_ret
      rw [HV.out]
      exact ⟨rfl, HG2.out.trans (Chg.alloc _ _ _)⟩
    · have h1 : (D != 64) = true := by simpa using h64
      have H1 := Lib.hid h1
      clear h64
      by_cases hT0 : m = 0
      · have hz : ((m : Int) == 0) = true := by rw [neD]; simpa using hT0
        have hz3 : decide (0 < m) = false := by simpa using hT0
        have hz1 : T = [] := List.eq_nil_of_length_eq_zero (by have := HM.out.1; omega)
        have HZ1 := Lib.hid hz1
        clear hz1 hT0
        have HV := Lib.hid (show saysF ⟨5, S, D, Q, E, T⟩ = false from by unfold saysF; simp [H1.out, HZ1.out])
        have ga : Chg (fun _ => False) w (w.alloc (.cells #[.int .i64 5, .int .i64 S, .int .i64 D, .int .i64 Q, .slice A n c, .slice B m cb] 71)) := Chg.alloc _ _ _
        have HGA := Lib.hid ga
        have hfi := find_any _ own (.slice A n c) E 1 (HI.out.keep ga (fun _ _ e => e)) HLL.out.2.1 HLL.out.1
        obtain ⟨X, hX⟩ : ∃ X, findE E 1 = X := ⟨_, rfl⟩
        rw [hX] at hfi
        have HX := Lib.hid hX
        have HFI := Lib.hid hfi
        have hba := block_alloc w (.cells #[.int .i64 5, .int .i64 S, .int .i64 D, .int .i64 Q, .slice A n c, .slice B m cb] 71)
        have HBA := Lib.hid hba
        clear ga hfi hX hba 
        go_enter Tryz.func151, Tryz.ntmps151
        go_wp2_with fail
        (with_reducible refine HFI.out.mono ?_)
        rintro en w2 ⟨lv, rfl, hown, G2⟩
        have hblk := Chg.keep G2 HBA.out (fun e => e)
        obtain ⟨b0, b1, b2, b3, b4, b5⟩ := cell6 hblk
        have hsz := lt_of_block hblk
        have hne : ¬ (w.heap.size = w2.heap.size) := by omega
        clear hblk
        unfold elV
        obtain ⟨A2, c2, rfl, _⟩ := Rs.of_own (V := VI) (zs := (X.getD el0).list) hown
        have HG2 := Lib.hid (HGA.out.trans G2)
        clear hown G2
        go_wp2_with fail
        go_ret
        rw [HV.out]
        exact ⟨rfl, HG2.out.trans (Chg.alloc _ _ _)⟩
      · have hz : ((m : Int) == 0) = false := by rw [neD]; simpa using hT0
        have hz3 : decide (0 < m) = true := by simp; omega
        have hz1 : ¬ T = [] := fun e => by have := HM.out.1; rw [e] at this; exact hT0 this
        have HZ1 := Lib.hid hz1
        clear hz1 hT0
        have HV := Lib.hid (show saysF ⟨5, S, D, Q, E, T⟩ = true from by unfold saysF; simp [H1.out, HZ1.out])
        have ga : Chg (fun _ => False) w (w.alloc (.cells #[.int .i64 5, .int .i64 S, .int .i64 D, .int .i64 Q, .slice A n c, .slice B m cb] 71)) := Chg.alloc _ _ _
        have HGA := Lib.hid ga
        have hfi := find_any _ own (.slice A n c) E 1 (HI.out.keep ga (fun _ _ e => e)) HLL.out.2.1 HLL.out.1
        obtain ⟨X, hX⟩ : ∃ X, findE E 1 = X := ⟨_, rfl⟩
        rw [hX] at hfi
        have HX := Lib.hid hX
        have HFI := Lib.hid hfi
        have hba := block_alloc w (.cells #[.int .i64 5, .int .i64 S, .int .i64 D, .int .i64 Q, .slice A n c, .slice B m cb] 71)
        have HBA := Lib.hid hba
        clear ga hfi hX hba 
        go_enter Tryz.func151, Tryz.ntmps151
        go_wp2_with fail
        (with_reducible refine HFI.out.mono ?_)
        rintro en w2 ⟨lv, rfl, hown, G2⟩
        have hblk := Chg.keep G2 HBA.out (fun e => e)
        obtain ⟨b0, b1, b2, b3, b4, b5⟩ := cell6 hblk
        have hsz := lt_of_block hblk
        have hne : ¬ (w.heap.size = w2.heap.size) := by omega
        clear hblk
        unfold elV
        obtain ⟨A2, c2, rfl, _⟩ := Rs.of_own (V := VI) (zs := (X.getD el0).list) hown
        have HG2 := Lib.hid (HGA.out.trans G2)
        clear hown G2
        go_wp2_with fail
        go_ret
        rw [HV.out]
        exact ⟨rfl, HG2.out.trans (Chg.alloc _ _ _)⟩
  rename_i k2 k4 k3 k1
  have j1 : (K == 1) = false := by simpa using k1
  have j2 : (K == 2) = false := by simpa using k2
  have j3 : (K == 3) = false := by simpa using k3
  have j4 : (K == 4) = false := by simpa using k4
  have j5 : (K == 5) = false := by simpa using hk
  have HV := Lib.hid (show saysF ⟨K, S, D, Q, E, T⟩ = false from by unfold saysF; simp [k1, k2, k3, k4, hk])
  have ga : Chg (fun _ => False) w (w.alloc (.cells #[.int .i64 K, .int .i64 S, .int .i64 D, .int .i64 Q, .slice A n c, .slice B m cb] 71)) := Chg.alloc _ _ _
  have HGA := Lib.hid ga
  have hfi := find_any _ own (.slice A n c) E 1 (HI.out.keep ga (fun _ _ e => e)) HLL.out.2.1 HLL.out.1
  obtain ⟨X, hX⟩ : ∃ X, findE E 1 = X := ⟨_, rfl⟩
  rw [hX] at hfi
  have HX := Lib.hid hX
  have HFI := Lib.hid hfi
  have hba := block_alloc w (.cells #[.int .i64 K, .int .i64 S, .int .i64 D, .int .i64 Q, .slice A n c, .slice B m cb] 71)
  have HBA := Lib.hid hba
  clear ga hfi hX hba k1 k2 k3 k4 hk
  go_enter Tryz.func151, Tryz.ntmps151
  go_wp2_with fail
  (with_reducible refine HFI.out.mono ?_)
  rintro en w2 ⟨lv, rfl, hown, G2⟩
  have hblk := Chg.keep G2 HBA.out (fun e => e)
  obtain ⟨b0, b1, b2, b3, b4, b5⟩ := cell6 hblk
  have hsz := lt_of_block hblk
  have hne : ¬ (w.heap.size = w2.heap.size) := by omega
  clear hblk
  unfold elV
  obtain ⟨A2, c2, rfl, _⟩ := Rs.of_own (V := VI) (zs := (X.getD el0).list) hown
  have HG2 := Lib.hid (HGA.out.trans G2)
  clear hown G2
  go_wp2_with fail
  go_ret
  rw [HV.out]
  exact ⟨rfl, HG2.out.trans (Chg.alloc _ _ _)⟩
end Go.Proofs.YtnpihllannobgaaGreatDoor
