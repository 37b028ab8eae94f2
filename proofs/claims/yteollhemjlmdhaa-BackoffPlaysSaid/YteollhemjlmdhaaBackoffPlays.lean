/- What the Go text of 'BackoffPlays' does, walked: it returns true, and nothing that was there has turned. No condition but what a row says of its arguments. -/
import Derived.Test.YteollhemjlmdhaaR
import Derived.Test.YteollhemjlmdhaaBackoffSame
namespace Go.Proofs.Yteollhemjlmdhaa
set_option linter.unusedVariables false
open Go.ChangeShapes Go.WideShapes Go.ChangeAt Go.RowKit
def RNew (w : World) (s : St) (e : Ending) (w' : World) : Prop :=
  ∃ b, e = .returned (.pointer (some ⟨b, 0, none⟩)) ∧ w.heap.size ≤ b ∧ Rk w' b s ∧ Chg (fun _ => False) w w'
theorem rnew {w : World} {s : St} {l m e x : Int} (h1 : l = s.l) (h2 : m = s.m) (h3 : e = s.e) (h4 : 0 = s.t) (h5 : x = s.x) :
    RNew w s (.returned (.pointer (some ⟨w.heap.size, 0, none⟩))) (w.alloc (.cells #[.int .i64 l, .int .i64 m, .int .i64 e, .int .i64 0, .int .u32 x] 34 (0, 0))) :=
  ⟨_, rfl, Nat.le_refl _, by unfold Rk; rw [← h1, ← h2, ← h3, ← h4, ← h5]; exact block_alloc _ _, Chg.alloc _ _ _⟩
theorem rnew_any (w : World) (l m x : Int) : Calls Try.prog 13 #[.int .i64 l, .int .i64 m, .int .u32 x] w (RNew w (st0 l m x)) := by
  go_enter Try.func13, Try.ntmps13
  go_wp2
  all_goals
    go_ret
    exact rnew (by simp only [st0]; omega) (by simp only [st0]; omega) (by simp only [st0]; omega) rfl rfl
set_option maxRecDepth 100000 in
set_option maxHeartbeats 4000000 in
theorem backoffPlays_walk (l m x : Int) (hx : (Lit.int .u32 x).wf = true) (a : Option Addr) (len cap : Nat) (zs : List Int) (w : World) (hs : Sl (fun z => Value.int .i64 z) w a len zs) :
    Calls Try.prog 4 #[.int .i64 l, .int .i64 m, .int .u32 x, .slice a len cap] w (PTrue w) := by
  have hl := hs.len
  have ok := ok0 l m x (u32_bd hx).1 (u32_bd hx).2
  clear hx
  go_enter Try.func4, Try.ntmps4
  go_wp2_with fail
  refine (new_any _ _ _ _).mono ?_
  rintro e w1 ⟨b, rfl, hb, k1, g1⟩
  go_wp2_with fail
  refine (rnew_any _ _ _ _).mono ?_
  rintro e w2 ⟨c, rfl, hc, r2, g2⟩
  generalize st0 l m x = s0 at *
  have k2 := k1.kept g2
  have hbc : b ≠ c := by have := lt_of_block k1; omega
  have G0 : Chg (fun k => w.heap.size ≤ k) w w2 := g1.none.trans g2.none
  have hc' : w.heap.size ≤ c := by have := g1.size; omega
  clear k1 g1 g2 hc
  go_wp2_with fail
  go_loopw [25] (fun i wr => ∃ (k : Nat) (s : St), k ≤ len ∧ k ≤ 300 ∧ i = .int .i64 k ∧ Ok s ∧ Bk wr b s ∧ Rk wr c s ∧ Chg (fun k => w.heap.size ≤ k) w wr) (fun i _ => len - (intOf i).toNat)
  case atStart => exact ⟨0, s0, by omega, by omega, rfl, ok, k2, r2, G0⟩
  case round =>
    obtain ⟨k, s, hk, hk4, rfl, oks, kk, rr, hg⟩ := hrel
    clear k2 r2 G0 ok
    by_cases hgo : k < len ∧ k < 300
    · obtain ⟨hlt, h4⟩ := hgo
      obtain ⟨p, z, rfl, hz, hcell⟩ := hs.at hg hlt
      clear hz hs
      by_cases h0 : z = 0
      · have b0 : (z == 0) = true := beq_iff_eq.2 h0
        have b1 : (z == 1) = false := by rw [beq_eq_false_iff_ne]; omega
        clear h0
        go_wp2_with fail
        refine (slot_any _ _ _ kk oks).mono ?_
        rintro e w3 ⟨rfl, k3, g3⟩
        have r3 := rr.keep g3 (fun h => hbc h.symm)
        go_wp2_with fail
        refine (rslot_any _ _ _ r3 oks).mono ?_
        rintro e w4 ⟨rfl, r4, g4⟩
        have k4 := k3.keep g4 hbc
        have ok4 := ok_slot oks
        have G4 := (hg.trans (g3.one hb)).trans (g4.one hc')
        obtain ⟨s', hs'⟩ : ∃ s' : St, s' = { s with t := max 0 (s.t - 1) } := ⟨_, rfl⟩
        rw [← hs'] at k4 r4 ok4
        clear kk rr k3 r3 hcell hs' g3 g4 hg
        have ct := r4.c3
        have ce := r4.c2
        obtain ⟨v, hv⟩ : ∃ v, (s'.t == 0) = v := ⟨_, rfl⟩
        have HV := Lib.hid hv
        have HK := Lib.hid k4
        have HR := Lib.hid r4
        clear hv k4 r4
        go_wp2_with fail
        cases v
        all_goals
          have hv := HV.out
          go_quiet (first | (go_at_call 10; exact Calls.quiet_of_same (wait_any _ _ _ HK.out)) | (go_at_call 8; exact Calls.quiet_of_same (exponent_any _ _ _ HK.out)) | (go_at_call 11; exact Calls.quiet_of_same (free_any _ _ _ _ HK.out HV.out)))
          go_wp2_with fail
          go_roundw
          case rel => exact ⟨k + 1, s', by omega, by omega, by go_num, ok4, HK.out, HR.out, G4.trans (Chg.drewN _ _ _)⟩
          case measure => simp [intOf]; omega
      · have b0 : (z == 0) = false := by rw [beq_eq_false_iff_ne]; omega
        by_cases h1 : z = 1
        · have b1 : (z == 1) = true := beq_iff_eq.2 h1
          clear h1 h0
          go_wp2_with fail
          refine (sent_yes _ _ _ kk).mono ?_
          rintro e w3 ⟨rfl, k3, g3⟩
          have r3 := rr.keep g3 (fun h => hbc h.symm)
          go_wp2_with fail
          refine (rsent_yes _ _ _ r3).mono ?_
          rintro e w4 ⟨rfl, r4, g4⟩
          have k4 := k3.keep g4 hbc
          have ok4 := ok_yes oks
          have G4 := (hg.trans (g3.one hb)).trans (g4.one hc')
          obtain ⟨s', hs'⟩ : ∃ s' : St, s' = sentYes s := ⟨_, rfl⟩
          rw [← hs'] at k4 r4 ok4
          clear kk rr k3 r3 hcell hs' g3 g4 hg
          have ct := r4.c3
          have ce := r4.c2
          obtain ⟨v, hv⟩ : ∃ v, (s'.t == 0) = v := ⟨_, rfl⟩
          have HV := Lib.hid hv
          have HK := Lib.hid k4
          have HR := Lib.hid r4
          clear hv k4 r4
          go_wp2_with fail
          cases v
          all_goals
            have hv := HV.out
            go_quiet (first | (go_at_call 10; exact Calls.quiet_of_same (wait_any _ _ _ HK.out)) | (go_at_call 8; exact Calls.quiet_of_same (exponent_any _ _ _ HK.out)) | (go_at_call 11; exact Calls.quiet_of_same (free_any _ _ _ _ HK.out HV.out)))
            go_wp2_with fail
            go_roundw
            case rel => exact ⟨k + 1, s', by omega, by omega, by go_num, ok4, HK.out, HR.out, G4.trans (Chg.drewN _ _ _)⟩
            case measure => simp [intOf]; omega
        · have b1 : (z == 1) = false := by rw [beq_eq_false_iff_ne]; omega
          clear h1 h0
          go_wp2_with fail
          refine (sent_no _ _ _ kk oks).mono ?_
          rintro e w3 ⟨rfl, k3, g3⟩
          have r3 := rr.keep g3 (fun h => hbc h.symm)
          go_wp2_with fail
          refine (rsent_no _ _ _ r3 oks).mono ?_
          rintro e w4 ⟨rfl, r4, g4⟩
          have k4 := k3.keep g4 hbc
          have ok4 := ok_no oks
          have G4 := (hg.trans (g3.one hb)).trans (g4.one hc')
          obtain ⟨s', hs'⟩ : ∃ s' : St, s' = sentNo s := ⟨_, rfl⟩
          rw [← hs'] at k4 r4 ok4
          clear kk rr k3 r3 hcell hs' g3 g4 hg
          have ct := r4.c3
          have ce := r4.c2
          obtain ⟨v, hv⟩ : ∃ v, (s'.t == 0) = v := ⟨_, rfl⟩
          have HV := Lib.hid hv
          have HK := Lib.hid k4
          have HR := Lib.hid r4
          clear hv k4 r4
          go_wp2_with fail
          cases v
          all_goals
            have hv := HV.out
            go_quiet (first | (go_at_call 10; exact Calls.quiet_of_same (wait_any _ _ _ HK.out)) | (go_at_call 8; exact Calls.quiet_of_same (exponent_any _ _ _ HK.out)) | (go_at_call 11; exact Calls.quiet_of_same (free_any _ _ _ _ HK.out HV.out)))
            go_wp2_with fail
            go_roundw
            case rel => exact ⟨k + 1, s', by omega, by omega, by go_num, ok4, HK.out, HR.out, G4.trans (Chg.drewN _ _ _)⟩
            case measure => simp [intOf]; omega
    · by_cases hlt : k < len
      · obtain ⟨p, z, rfl, hz, hcell⟩ := hs.at hg hlt
        have h4 : ¬ k < 300 := by omega
        clear hz hs hgo
        go_wp2_with fail
        refine (awake_true _).mono ?_
        rintro e w5 ⟨rfl, g5⟩
        go_wp2_with fail
        go_ret
        exact ⟨rfl, (hg.trans g5.none).fresh⟩
      · clear hgo
        go_wp2_with fail
        refine (awake_true _).mono ?_
        rintro e w5 ⟨rfl, g5⟩
        go_wp2_with fail
        go_ret
        exact ⟨rfl, (hg.trans g5.none).fresh⟩
end Go.Proofs.Yteollhemjlmdhaa
