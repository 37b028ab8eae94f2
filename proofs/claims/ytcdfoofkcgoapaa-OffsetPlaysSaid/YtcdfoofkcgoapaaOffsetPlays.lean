/- What the Go text of 'OffsetPlays' does, walked: it returns true, and nothing that was there has turned. No condition but what a row says of its arguments. -/
import Derived.Test.YtcdfoofkcgoapaaRN
import Derived.Test.YtcdfoofkcgoapaaC
import Derived.Test.YtcdfoofkcgoapaaOffsetHops
namespace Go.Proofs.Ytcdfoofkcgoapaa
set_option linter.unusedVariables false
open Go.ChangeShapes Go.WideShapes Go.ChangeAt Go.RowKit
theorem slotf_le {l : List Int} {M : Int} (hM : 0 ≤ M) (h : ∀ i, l.getD i 0 ≤ M) (i : Nat) : (slotf l).getD i 0 ≤ M + 1 := by
  have h1 := h i
  rw [List.getD] at h1 ⊢
  rw [slotf_at]
  cases hz : l[i]? with
  | none => show (0 : Int) ≤ _; omega
  | some z =>
    rw [hz] at h1
    have h2 : z ≤ M := h1
    show up i z ≤ _
    unfold up; split <;> omega
theorem heardf_le {l : List Int} {M : Int} (hM : 0 ≤ M) (h : ∀ i, l.getD i 0 ≤ M) (i j e : Int) (n : Nat) : (heardf l i j e).getD n 0 ≤ M + 1000 := by
  unfold heardf
  split
  · refine set_le (fun i => Int.le_trans (h i) (by omega)) ?_ _ _
    have := h j.toNat
    have := lim_bd e
    split <;> omega
  · have := h n; omega
theorem rbound_ex (w : World) (b d cap : Nat) (l : List Int) (i x : Int) (v : Bool) (h : Rk w b d cap l) (hl : l.length ≤ 16) (e : bnd l i = (x, v)) :
   Calls Try.prog 23 #[.pointer (some ⟨b, 0, none⟩), .int .i64 i] w fun r w' => r = .returned (.tuple #[.int .i64 x, .bool v]) ∧ w' = w := by
  have := rbound_any w b d cap l i h hl
  rw [e] at this; exact this
theorem newf_le (n : Int) (i : Nat) : (newf n).getD i 0 ≤ 0 := by
  rw [List.getD]
  cases i with
  | zero => show (0 : Int) ≤ 0; omega
  | succ i =>
    unfold newf
    rw [List.getElem?_cons_succ, List.getElem?_replicate]
    split
    · show (-1 : Int) ≤ 0; omega
    · show (0 : Int) ≤ 0; omega
set_option maxRecDepth 100000 in
set_option maxHeartbeats 8000000 in
theorem offsetPlays_walk (n : Int) (a : Option Addr) (len cap : Nat) (zs : List (Int × Int × Int × Int)) (w : World) (hs : Sls 4 VCall w a len zs) :
    Calls Try.prog 5 #[.int .i64 n, .slice a len cap] w (PTrue w) := by
  have hl := hs.len
  go_enter Try.func5, Try.ntmps5
  go_wp2_with fail
  refine (new_any _ _).mono ?_
  rintro e w1 ⟨b, d, rfl, hb, hd, k1, g1⟩
  go_wp2_with fail
  refine (rnew_any _ _).mono ?_
  rintro e w2 ⟨b2, d2, cap2, rfl, hb2, hd2, r2, g2⟩
  have k2 := k1.keep g2 (fun f => f) (fun f => f)
  have hb1 := lt_of_block k1.head
  have hd1 := lt_of_block k1.data
  have h4bd : b2 ≠ d := by omega
  have hdd : ¬ d = d2 := by omega
  have hbd2 : ¬ b = d2 := by omega
  have hd' : w.heap.size ≤ d2 := by have := g1.size; omega
  have G0 : Chg (fun k => w.heap.size ≤ k) w w2 := g1.none.trans g2.none
  have hll0 : (newf n).length ≤ 16 := by rw [newf_len]; unfold many; omega
  have hle0 : ∀ i, (newf n).getD i 0 ≤ 1001 * ((0 : Nat) : Int) := fun i => Int.le_trans (newf_le n i) (by omega)
  clear k1 g1 g2 hb1 hd1 hb2 hd2
  generalize newf n = l0 at *
  go_wp2_with fail
  go_loopw [22] (fun i wr => ∃ (k : Nat) (l : List Int), k ≤ len ∧ k ≤ 300 ∧ i = .int .i64 k ∧ l.length ≤ 16 ∧ (∀ i, l.getD i 0 ≤ 1001 * (k : Int)) ∧ Pk wr b d l ∧ Rk wr b2 d2 cap2 l ∧ Chg (fun k => w.heap.size ≤ k) w wr) (fun i _ => len - (intOf i).toNat)
  case atStart => exact ⟨0, l0, by omega, by omega, rfl, hll0, hle0, k2, r2, G0⟩
  case round =>
    obtain ⟨k, l, hk, hk4, rfl, hll, hle, kk, rr, hg⟩ := hrel
    clear k2 r2 G0 hll0 hle0
    have HLE := Lib.hid hle
    clear hle
    by_cases hgo : k < len ∧ k < 300
    · obtain ⟨hlt, h4⟩ := hgo
      obtain ⟨p, ⟨c0, c1, c2, c3⟩, rfl, hz, hcell⟩ := hs.at hg hlt
      have hc0 : wr.cell? (p.add (k * 4)) = some (.int .i64 c0) := hcell 0 (by omega)
      have hc1 : wr.cell? { block := (p.add (k * 4)).block, off := (p.add (k * 4)).off + 1 } = some (.int .i64 c1) := hcell 1 (by omega)
      have hc2 : wr.cell? { block := (p.add (k * 4)).block, off := (p.add (k * 4)).off + 2 } = some (.int .i64 c2) := hcell 2 (by omega)
      have hc3 : wr.cell? { block := (p.add (k * 4)).block, off := (p.add (k * 4)).off + 3 } = some (.int .i64 c3) := hcell 3 (by omega)
      clear hz hs hcell
      by_cases h0 : c0 = 0
      · have b0 : (c0 == 0) = true := beq_iff_eq.2 h0
        have b1 : (c0 == 1) = false := by rw [beq_eq_false_iff_ne]; omega
        clear h0
        go_wp2_with fail
        have hle := HLE.out
        clear HLE
        have ga := Chg.alloc (fun _ => False) wr (.cells #[.int .i64 c0, .int .i64 c1, .int .i64 c2, .int .i64 c3] 33)
        have vA : Vk (wr.alloc (.cells #[.int .i64 c0, .int .i64 c1, .int .i64 c2, .int .i64 c3] 33)) wr.heap.size c0 c1 c2 c3 := block_alloc _ _
        have kA := kk.keep ga (fun f => f) (fun f => f)
        have rA := rr.keep ga (fun f => f) (fun f => f)
        have hsd : wr.heap.size ≠ d := by have := lt_of_block kk.data; omega
        have gA := hg.trans ga.none
        clear kk rr hg ga hc0 hc1 hc2 hc3
        generalize wr.alloc (.cells #[.int .i64 c0, .int .i64 c1, .int .i64 c2, .int .i64 c3] 33) = wa at *
        generalize wr.heap.size = s at *
        refine (slot_any _ _ _ _ kA hll (fun i => Int.le_trans (hle i) (by omega))).mono ?_
        rintro e w3 ⟨rfl, k3, g3⟩
        have r3 := rA.keep g3 (fun h => h4bd h) (fun h => hdd h.symm)
        have v3 := vA.keep g3 hsd
        have G3 := gA.trans (g3.one hd)
        have cc1 := v3.c1
        have cc2 := v3.c2
        have cc3 := v3.c3
        clear kA rA vA gA g3
        go_wp2_with fail
        clear cc1 cc2 cc3
        refine (rslot_any _ _ _ _ _ r3 hll (fun i => Int.le_trans (hle i) (by omega))).mono ?_
        rintro e w4 ⟨rfl, r4, g4⟩
        have k4 := k3.keep g4 hbd2 hdd
        have G4 := G3.trans (g4.one hd')
        have hll' : (slotf l).length ≤ 16 := by rw [slotf_len]; omega
        have hle' : ∀ i, (slotf l).getD i 0 ≤ 1001 * ((k : Int) + 1) := fun i => Int.le_trans (slotf_le (by omega) hle i) (by omega)
        clear k3 r3 v3 g4 G3 hle hll
        generalize hL : slotf l = l' at *
        clear hL
        go_wp2_with fail
        go_loopw [9] (fun i wr => ∃ (t : Int), -1 ≤ t ∧ t ≤ 17 ∧ i = .int .i64 t ∧ Pk wr b d l' ∧ Rk wr b2 d2 cap2 l' ∧ Chg (fun k => w.heap.size ≤ k) w wr) (fun i _ => (17 - intOf i).toNat)
        case atStart => exact ⟨-1, by omega, by omega, rfl, k4, r4, G4⟩
        case round =>
          obtain ⟨t, t0, t1, rfl, kt, rt, gt⟩ := hrel
          clear k4 r4 G4
          have HLE := Lib.hid hle'
          clear hle'
          by_cases htm : t ≤ 16
          · obtain ⟨x, v, hxv⟩ : ∃ x v, bnd l' t = (x, v) := ⟨_, _, rfl⟩
            have HXV := Lib.hid hxv
            clear hxv
            go_wp2_with fail
            refine (bound_ex _ _ _ _ _ _ _ kt hll' HXV.out).mono ?_
            rintro e w9 ⟨rfl, rfl⟩
            go_wp2_with fail
            refine (rbound_ex _ _ _ _ _ _ _ _ rt hll' HXV.out).mono ?_
            rintro e w9 ⟨rfl, rfl⟩
            go_wp2_with fail
            go_roundw
            case rel => exact ⟨t + 1, by omega, by omega, rfl, kt, rt, gt⟩
            case measure => simp [intOf]; omega
          · go_wp2_with fail
            go_roundw
            case rel => exact ⟨k + 1, l', by omega, by omega, by go_num, hll', by have := HLE.out; exact fun i => Int.le_trans (this i) (by omega), kt, rt, gt⟩
            case measure => simp [intOf]; omega
      · have b0 : (c0 == 0) = false := by rw [beq_eq_false_iff_ne]; omega
        by_cases h1 : c0 = 1
        · have b1 : (c0 == 1) = true := beq_iff_eq.2 h1
          clear h1 h0
          go_wp2_with fail
          have hle := HLE.out
          clear HLE
          have ga := Chg.alloc (fun _ => False) wr (.cells #[.int .i64 c0, .int .i64 c1, .int .i64 c2, .int .i64 c3] 33)
          have vA : Vk (wr.alloc (.cells #[.int .i64 c0, .int .i64 c1, .int .i64 c2, .int .i64 c3] 33)) wr.heap.size c0 c1 c2 c3 := block_alloc _ _
          have kA := kk.keep ga (fun f => f) (fun f => f)
          have rA := rr.keep ga (fun f => f) (fun f => f)
          have hsd : wr.heap.size ≠ d := by have := lt_of_block kk.data; omega
          have gA := hg.trans ga.none
          clear kk rr hg ga hc0 hc1 hc2 hc3
          generalize wr.alloc (.cells #[.int .i64 c0, .int .i64 c1, .int .i64 c2, .int .i64 c3] 33) = wa at *
          generalize wr.heap.size = s at *
          refine (lose_any _ _ _ _ _ kA hll).mono ?_
          rintro e w3 ⟨rfl, k3, g3⟩
          have r3 := rA.keep g3 (fun h => h4bd h) (fun h => hdd h.symm)
          have v3 := vA.keep g3 hsd
          have G3 := gA.trans (g3.one hd)
          have cc1 := v3.c1
          have cc2 := v3.c2
          have cc3 := v3.c3
          clear kA rA vA gA g3
          go_wp2_with fail
          clear cc1 cc2 cc3
          refine (rlose_any _ _ _ _ _ _ r3 hll).mono ?_
          rintro e w4 ⟨rfl, r4, g4⟩
          have k4 := k3.keep g4 hbd2 hdd
          have G4 := G3.trans (g4.one hd')
          have hll' : (losef l c1).length ≤ 16 := by rw [losef_len]; omega
          have hle' : ∀ i, (losef l c1).getD i 0 ≤ 1001 * ((k : Int) + 1) := fun i => Int.le_trans (losef_le (by omega) hle c1 i) (by omega)
          clear k3 r3 v3 g4 G3 hle hll
          generalize hL : losef l c1 = l' at *
          clear hL
          go_wp2_with fail
          go_loopw [9] (fun i wr => ∃ (t : Int), -1 ≤ t ∧ t ≤ 17 ∧ i = .int .i64 t ∧ Pk wr b d l' ∧ Rk wr b2 d2 cap2 l' ∧ Chg (fun k => w.heap.size ≤ k) w wr) (fun i _ => (17 - intOf i).toNat)
          case atStart => exact ⟨-1, by omega, by omega, rfl, k4, r4, G4⟩
          case round =>
            obtain ⟨t, t0, t1, rfl, kt, rt, gt⟩ := hrel
            clear k4 r4 G4
            have HLE := Lib.hid hle'
            clear hle'
            by_cases htm : t ≤ 16
            · obtain ⟨x, v, hxv⟩ : ∃ x v, bnd l' t = (x, v) := ⟨_, _, rfl⟩
              have HXV := Lib.hid hxv
              clear hxv
              go_wp2_with fail
              refine (bound_ex _ _ _ _ _ _ _ kt hll' HXV.out).mono ?_
              rintro e w9 ⟨rfl, rfl⟩
              go_wp2_with fail
              refine (rbound_ex _ _ _ _ _ _ _ _ rt hll' HXV.out).mono ?_
              rintro e w9 ⟨rfl, rfl⟩
              go_wp2_with fail
              go_roundw
              case rel => exact ⟨t + 1, by omega, by omega, rfl, kt, rt, gt⟩
              case measure => simp [intOf]; omega
            · go_wp2_with fail
              go_roundw
              case rel => exact ⟨k + 1, l', by omega, by omega, by go_num, hll', by have := HLE.out; exact fun i => Int.le_trans (this i) (by omega), kt, rt, gt⟩
              case measure => simp [intOf]; omega
        · have b1 : (c0 == 1) = false := by rw [beq_eq_false_iff_ne]; omega
          clear h1 h0
          go_wp2_with fail
          have hle := HLE.out
          clear HLE
          have ga := Chg.alloc (fun _ => False) wr (.cells #[.int .i64 c0, .int .i64 c1, .int .i64 c2, .int .i64 c3] 33)
          have vA : Vk (wr.alloc (.cells #[.int .i64 c0, .int .i64 c1, .int .i64 c2, .int .i64 c3] 33)) wr.heap.size c0 c1 c2 c3 := block_alloc _ _
          have kA := kk.keep ga (fun f => f) (fun f => f)
          have rA := rr.keep ga (fun f => f) (fun f => f)
          have hsd : wr.heap.size ≠ d := by have := lt_of_block kk.data; omega
          have gA := hg.trans ga.none
          clear kk rr hg ga hc0 hc1 hc2 hc3
          generalize wr.alloc (.cells #[.int .i64 c0, .int .i64 c1, .int .i64 c2, .int .i64 c3] 33) = wa at *
          generalize wr.heap.size = s at *
          refine (heard_any _ _ _ _ _ _ _ kA hll (fun i => Int.le_trans (hle i) (by omega))).mono ?_
          rintro e w3 ⟨rfl, k3, g3⟩
          have r3 := rA.keep g3 (fun h => h4bd h) (fun h => hdd h.symm)
          have v3 := vA.keep g3 hsd
          have G3 := gA.trans (g3.one hd)
          have cc1 := v3.c1
          have cc2 := v3.c2
          have cc3 := v3.c3
          clear kA rA vA gA g3
          go_wp2_with fail
          clear cc1 cc2 cc3
          refine (rheard_any _ _ _ _ _ _ _ _ r3 hll (fun i => Int.le_trans (hle i) (by omega))).mono ?_
          rintro e w4 ⟨rfl, r4, g4⟩
          have k4 := k3.keep g4 hbd2 hdd
          have G4 := G3.trans (g4.one hd')
          have hll' : (heardf l c1 c2 c3).length ≤ 16 := by rw [heardf_len]; omega
          have hle' : ∀ i, (heardf l c1 c2 c3).getD i 0 ≤ 1001 * ((k : Int) + 1) := fun i => Int.le_trans (heardf_le (by omega) hle c1 c2 c3 i) (by omega)
          clear k3 r3 v3 g4 G3 hle hll
          generalize hL : heardf l c1 c2 c3 = l' at *
          clear hL
          go_wp2_with fail
          go_loopw [9] (fun i wr => ∃ (t : Int), -1 ≤ t ∧ t ≤ 17 ∧ i = .int .i64 t ∧ Pk wr b d l' ∧ Rk wr b2 d2 cap2 l' ∧ Chg (fun k => w.heap.size ≤ k) w wr) (fun i _ => (17 - intOf i).toNat)
          case atStart => exact ⟨-1, by omega, by omega, rfl, k4, r4, G4⟩
          case round =>
            obtain ⟨t, t0, t1, rfl, kt, rt, gt⟩ := hrel
            clear k4 r4 G4
            have HLE := Lib.hid hle'
            clear hle'
            by_cases htm : t ≤ 16
            · obtain ⟨x, v, hxv⟩ : ∃ x v, bnd l' t = (x, v) := ⟨_, _, rfl⟩
              have HXV := Lib.hid hxv
              clear hxv
              go_wp2_with fail
              refine (bound_ex _ _ _ _ _ _ _ kt hll' HXV.out).mono ?_
              rintro e w9 ⟨rfl, rfl⟩
              go_wp2_with fail
              refine (rbound_ex _ _ _ _ _ _ _ _ rt hll' HXV.out).mono ?_
              rintro e w9 ⟨rfl, rfl⟩
              go_wp2_with fail
              go_roundw
              case rel => exact ⟨t + 1, by omega, by omega, rfl, kt, rt, gt⟩
              case measure => simp [intOf]; omega
            · go_wp2_with fail
              go_roundw
              case rel => exact ⟨k + 1, l', by omega, by omega, by go_num, hll', by have := HLE.out; exact fun i => Int.le_trans (this i) (by omega), kt, rt, gt⟩
              case measure => simp [intOf]; omega
    · by_cases hlt : k < len
      · have h4 : ¬ k < 300 := by omega
        obtain ⟨p, ⟨c0, c1, c2, c3⟩, rfl, hz, hcell⟩ := hs.at hg hlt
        have hc0 : wr.cell? (p.add (k * 4)) = some (.int .i64 c0) := hcell 0 (by omega)
        have hc1 : wr.cell? { block := (p.add (k * 4)).block, off := (p.add (k * 4)).off + 1 } = some (.int .i64 c1) := hcell 1 (by omega)
        have hc2 : wr.cell? { block := (p.add (k * 4)).block, off := (p.add (k * 4)).off + 2 } = some (.int .i64 c2) := hcell 2 (by omega)
        have hc3 : wr.cell? { block := (p.add (k * 4)).block, off := (p.add (k * 4)).off + 3 } = some (.int .i64 c3) := hcell 3 (by omega)
        clear hz hs hcell
        clear hgo
        go_wp2_with fail
        have ga := Chg.alloc (fun _ => False) wr (.cells #[.int .i64 c0, .int .i64 c1, .int .i64 c2, .int .i64 c3] 33)
        have hg := hg.trans ga.none
        go_wp2_with fail
        refine (awake_true _).mono ?_
        rintro e w8 ⟨rfl, g8⟩
        go_wp2_with fail
        go_ret
        exact ⟨rfl, (hg.trans g8.none).fresh⟩
      · clear hgo
        go_wp2_with fail
        refine (awake_true _).mono ?_
        rintro e w8 ⟨rfl, g8⟩
        go_wp2_with fail
        go_ret
        exact ⟨rfl, (hg.trans g8.none).fresh⟩
end Go.Proofs.Ytcdfoofkcgoapaa
