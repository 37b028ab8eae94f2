/- What the Go text of 'BackoffEnds' does, walked: it returns true, and nothing that was there has turned. No condition but what a row says of its arguments. -/
import Derived.Test.YteollhemjlmdhaaBackoffSame
namespace Go.Proofs.Yteollhemjlmdhaa
set_option linter.unusedVariables false
open Go.ChangeShapes Go.WideShapes Go.ChangeAt Go.RowKit
theorem ok_t0 {s : St} (h : Ok s) : Ok { s with t := 0 } := by
  obtain ⟨a0, a1, a2, a3, a4, a5, a6, a7, a8⟩ := h
  constructor <;> simp only <;> omega
theorem ok_tj {s : St} (h : Ok s) {t : Int} (h0 : 0 ≤ t) (h1 : t ≤ 65535) : Ok { s with t := t } := by
  obtain ⟨a0, a1, a2, a3, a4, a5, a6, a7, a8⟩ := h
  constructor <;> simp only <;> omega
theorem wrap_pow (n : Nat) (t e : Int) (he : e = n) (hn : n ≤ 8) (h : t < 2 ^ e.toNat) : t < wrap64 (2 ^ n) := by
  subst he
  have h2 : 2 ^ n ≤ 2 ^ 8 := Nat.pow_le_pow_right (by omega) hn
  have h3 : (2 : Int) ^ n = ((2 ^ n : Nat) : Int) := by simp
  simp only [Int.toNat_natCast] at h
  rw [h3] at h ⊢
  generalize 2 ^ n = z at *
  unfold wrap64; omega
set_option maxRecDepth 100000 in
set_option maxHeartbeats 4000000 in
theorem backoffEnds_walk (l m x f : Int) (hx : (Lit.int .u32 x).wf = true) (w : World) :
    Calls Try.prog 6 #[.int .i64 l, .int .i64 m, .int .u32 x, .int .i64 f] w (PTrue w) := by
  obtain ⟨p, hp, he⟩ := umod l 9 (by omega) (by omega)
  obtain ⟨q, hq, hf⟩ := umod m (9 - p) (by omega) (by omega)
  obtain ⟨r, hr, hh⟩ := umod f 30 (by omega) (by omega)
  have ok := ok0 p (p + q) x (u32_bd hx).1 (u32_bd hx).2
  have hst : st0 p (p + q) x = { l := p, m := p + q, e := p, t := 0, x := x } := by
    have e1 : max 0 (min (p : Int) 8) = p := by omega
    have e2 : max (p : Int) (min (p + q) 8) = p + q := by omega
    simp only [st0, e1, e2]
  have HST := Lib.hid hst
  have HH := Lib.hid hh
  have hw : IntKind.u64.wrap (9 - (p : Int)) = 9 - p := by
    simp only [IntKind.wrap, IntKind.bits, IntKind.signed]; simp; omega
  clear hx hst hh
  go_enter Try.func6, Try.ntmps6
  go_wp2_with fail
  rw [he, hf]
  clear he hf hw
  refine (new_any _ _ _ _).mono ?_
  rintro e w1 ⟨b, rfl, hb, k1, g1⟩
  rw [HST.out] at k1 ok
  clear HST
  have hh := HH.out
  go_wp2_with fail
  rw [hh]
  clear hh HH
  go_loopw [35] (fun i wr => ∃ (k : Nat) (s : St), k ≤ r ∧ i = .int .i64 k ∧ Ok s ∧ s.l = p ∧ s.m = p + q ∧ s.e = min (p + q : Int) (p + k) ∧ Bk wr b s ∧ Chg (fun k => w.heap.size ≤ k) w wr) (fun i _ => r - (intOf i).toNat)
  case atStart => exact ⟨0, _, by omega, rfl, ok, rfl, rfl, by simp; omega, k1, g1.none⟩
  case round =>
    obtain ⟨k, s, hk, rfl, oks, hsl, hsm, hse, kk, hg⟩ := hrel
    clear k1 g1 ok
    by_cases hgo : k < r
    · have HL := Lib.hid hsl
      have HM := Lib.hid hsm
      have HE := Lib.hid hse
      clear hsl hsm hse
      go_wp2_with fail
      refine (sent_no _ _ _ kk oks).mono ?_
      rintro e w3 ⟨rfl, k3, g3⟩
      have ok3 := ok_no oks
      have hE' : (sentNo s).e = min (p + q : Int) (p + k + 1) := by
        have h1 := HE.out; have h2 := HM.out
        simp only [sentNo, h1, h2]; omega
      have hL' : (sentNo s).l = p := HL.out
      have hM' : (sentNo s).m = p + q := HM.out
      have hT' : (sentNo s).t < 2 ^ (sentNo s).e.toNat := (waitOf_bd _ _).2
      generalize sentNo s = s' at *
      have G3 := hg.trans (g3.one hb)
      clear kk oks HL HM HE g3 hg
      have HL := Lib.hid hL'
      have HM := Lib.hid hM'
      have HE := Lib.hid hE'
      have e0 : 0 ≤ s'.e := by have := ok3.l0; have := ok3.le; omega
      have e1 : s'.e ≤ p + q := by omega
      have e2 : s'.e ≤ p + k + 1 := by omega
      have t0 := ok3.t0
      have t1 := ok3.t1
      have HT := Lib.hid hT'
      clear hL' hM' hT'
      by_cases hc : (p : Int) + k + 1 < p + q
      · have e3 : (p : Int) + k + 1 ≤ s'.e := by omega
        have hpw : s'.t < wrap64 (2 ^ (p + k + 1)) := wrap_pow (p + k + 1) _ s'.e (by omega) (by omega) HT.out
        clear hE'
        go_wp2_with fail
        refine (exponent_any _ _ _ k3).mono ?_
        rintro e w9 ⟨rfl, rfl⟩
        go_wp2_with fail
        refine (wait_any _ _ _ k3).mono ?_
        rintro e w9 ⟨rfl, rfl⟩
        by_cases h3 : k % 3 = 2
        · have b3 : ((k : Int) % 3 == 2) = true := beq_iff_eq.2 (by omega)
          have B3 := Lib.hid b3
          go_wp2_with fail
          clear b3 B3 h3 e3 hpw
          obtain ⟨Tn, hTn⟩ : ∃ Tn : Nat, s'.t = Tn := ⟨s'.t.toNat, by omega⟩
          have kT : Bk w9 b { s' with t := (Tn : Int) - (0 : Nat) } := by rw [← hTn]; simpa using k3
          have okT : Ok { s' with t := 0 } := ok_t0 ok3
          rw [hTn]
          have htb : Tn ≤ 65535 := by omega
          clear hTn k3 t0 t1
          go_loopw [67] (fun i wr => ∃ (j : Nat), j ≤ Tn ∧ i = .int .i64 j ∧ Bk wr b { s' with t := (Tn : Int) - j } ∧ Chg (fun k => w.heap.size ≤ k) w wr) (fun i _ => Tn - (intOf i).toNat)
          case atStart => exact ⟨0, by omega, rfl, kT, G3⟩
          case round =>
            obtain ⟨j, hj, rfl, kj, hg⟩ := hrel
            clear kT G3
            by_cases hjt : j < Tn
            · go_wp2_with fail
              refine (wait_any _ _ _ kj).mono ?_
              rintro e w4 ⟨rfl, rfl⟩
              go_wp2_with fail
              refine (free_any _ _ _ false kj (by rw [beq_eq_false_iff_ne]; simp only; omega)).mono ?_
              rintro e w4 ⟨rfl, rfl⟩
              go_wp2_with fail
              refine (slot_any _ _ _ kj (ok_tj ok3 (by omega) (by omega))).mono ?_
              rintro e w4 ⟨rfl, k4, g4⟩
              have k5 : Bk w4 b { s' with t := (Tn : Int) - ((j + 1 : Nat) : Int) } := by
                have e : max 0 ((Tn : Int) - j - 1) = (Tn : Int) - ((j + 1 : Nat) : Int) := by omega
                simp only [e] at k4; exact k4
              clear kj k4
              go_wp2_with fail
              go_roundw
              case rel => exact ⟨j + 1, by omega, by go_num, k5, hg.trans (g4.one hb)⟩
              case measure => simp [intOf]; omega
            · obtain rfl : j = Tn := by omega
              have k5 : Bk wr b { s' with t := 0 } := by simpa using kj
              clear kj
              go_wp2_with fail
              refine (free_any _ _ _ true k5 rfl).mono ?_
              rintro e w4 ⟨rfl, rfl⟩
              go_wp2_with fail
              refine (exponent_any _ _ _ k5).mono ?_
              rintro e w4 ⟨rfl, rfl⟩
              go_wp2_with fail
              go_roundw
              case rel => exact ⟨k + 1, _, by omega, by go_num, okT, HL.out, HM.out, by have := HE.out; simp only; omega, k5, hg⟩
              case measure => simp [intOf]; omega
        · have b3 : ((k : Int) % 3 == 2) = false := by rw [beq_eq_false_iff_ne]; omega
          have B3 := Lib.hid b3
          go_wp2_with fail
          go_roundw
          case rel => exact ⟨k + 1, s', by omega, by go_num, ok3, HL.out, HM.out, by have := HE.out; omega, k3, G3⟩
          case measure => simp [intOf]; omega
      · have e3 : (p : Int) + q ≤ s'.e := by omega
        have hpw : s'.t < wrap64 (2 ^ (p + q)) := wrap_pow (p + q) _ s'.e (by omega) (by omega) HT.out
        clear hE'
        go_wp2_with fail
        refine (exponent_any _ _ _ k3).mono ?_
        rintro e w9 ⟨rfl, rfl⟩
        go_wp2_with fail
        refine (wait_any _ _ _ k3).mono ?_
        rintro e w9 ⟨rfl, rfl⟩
        by_cases h3 : k % 3 = 2
        · have b3 : ((k : Int) % 3 == 2) = true := beq_iff_eq.2 (by omega)
          have B3 := Lib.hid b3
          go_wp2_with fail
          clear b3 B3 h3 e3 hpw
          obtain ⟨Tn, hTn⟩ : ∃ Tn : Nat, s'.t = Tn := ⟨s'.t.toNat, by omega⟩
          have kT : Bk w9 b { s' with t := (Tn : Int) - (0 : Nat) } := by rw [← hTn]; simpa using k3
          have okT : Ok { s' with t := 0 } := ok_t0 ok3
          rw [hTn]
          have htb : Tn ≤ 65535 := by omega
          clear hTn k3 t0 t1
          go_loopw [67] (fun i wr => ∃ (j : Nat), j ≤ Tn ∧ i = .int .i64 j ∧ Bk wr b { s' with t := (Tn : Int) - j } ∧ Chg (fun k => w.heap.size ≤ k) w wr) (fun i _ => Tn - (intOf i).toNat)
          case atStart => exact ⟨0, by omega, rfl, kT, G3⟩
          case round =>
            obtain ⟨j, hj, rfl, kj, hg⟩ := hrel
            clear kT G3
            by_cases hjt : j < Tn
            · go_wp2_with fail
              refine (wait_any _ _ _ kj).mono ?_
              rintro e w4 ⟨rfl, rfl⟩
              go_wp2_with fail
              refine (free_any _ _ _ false kj (by rw [beq_eq_false_iff_ne]; simp only; omega)).mono ?_
              rintro e w4 ⟨rfl, rfl⟩
              go_wp2_with fail
              refine (slot_any _ _ _ kj (ok_tj ok3 (by omega) (by omega))).mono ?_
              rintro e w4 ⟨rfl, k4, g4⟩
              have k5 : Bk w4 b { s' with t := (Tn : Int) - ((j + 1 : Nat) : Int) } := by
                have e : max 0 ((Tn : Int) - j - 1) = (Tn : Int) - ((j + 1 : Nat) : Int) := by omega
                simp only [e] at k4; exact k4
              clear kj k4
              go_wp2_with fail
              go_roundw
              case rel => exact ⟨j + 1, by omega, by go_num, k5, hg.trans (g4.one hb)⟩
              case measure => simp [intOf]; omega
            · obtain rfl : j = Tn := by omega
              have k5 : Bk wr b { s' with t := 0 } := by simpa using kj
              clear kj
              go_wp2_with fail
              refine (free_any _ _ _ true k5 rfl).mono ?_
              rintro e w4 ⟨rfl, rfl⟩
              go_wp2_with fail
              refine (exponent_any _ _ _ k5).mono ?_
              rintro e w4 ⟨rfl, rfl⟩
              go_wp2_with fail
              go_roundw
              case rel => exact ⟨k + 1, _, by omega, by go_num, okT, HL.out, HM.out, by have := HE.out; simp only; omega, k5, hg⟩
              case measure => simp [intOf]; omega
        · have b3 : ((k : Int) % 3 == 2) = false := by rw [beq_eq_false_iff_ne]; omega
          have B3 := Lib.hid b3
          go_wp2_with fail
          go_roundw
          case rel => exact ⟨k + 1, s', by omega, by go_num, ok3, HL.out, HM.out, by have := HE.out; omega, k3, G3⟩
          case measure => simp [intOf]; omega
    · clear hsm hse
      go_wp2_with fail
      refine (sent_yes _ _ _ kk).mono ?_
      rintro e w3 ⟨rfl, k3, g3⟩
      go_wp2_with fail
      refine (free_any _ _ _ true k3 rfl).mono ?_
      rintro e w4 ⟨rfl, rfl⟩
      go_wp2_with fail
      refine (exponent_any _ _ _ k3).mono ?_
      rintro e w4 ⟨rfl, rfl⟩
      rw [show (sentYes s).e = p from hsl]
      go_wp2_with fail
      refine (awake_true _).mono ?_
      rintro e w5 ⟨rfl, g5⟩
      go_wp2_with fail
      go_ret
      exact ⟨rfl, ((hg.trans (g3.one hb)).trans g5.none).fresh⟩
end Go.Proofs.Yteollhemjlmdhaa
