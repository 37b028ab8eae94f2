/-  No condition. -/
import Derived.Test.YtnpihllannobgaaGreatDoorG01
namespace Go.Proofs.YtnpihllannobgaaGreatDoor
set_option linter.unusedVariables false
set_option linter.unusedSimpArgs false
open Go.ChangeShapes Go.WideShapes Go.ChangeAt Go.RowKit

/-- a writer lies in block b; v: its bytes L. -/
structure Wr (w : World) (b : Nat) (v : Value) (L : List Int) : Prop where
  blk : w.heap[b]? = some (.cells #[v, .int .i64 (8 * L.length : Nat)] 180 (0, 0))
  own : w.ownsRow (b + 1) 5 1 v L.length (L.map V8)
theorem Wr.c0 {w : World} {b : Nat} {v : Value} {L : List Int} (h : Wr w b v L) : w.cell? ⟨b, 0, none⟩ = some v := by rw [cell_of_block h.blk]; rfl
theorem Wr.c1 {w : World} {b : Nat} {v : Value} {L : List Int} (h : Wr w b v L) : w.cell? ⟨b, 1, none⟩ = some (.int .i64 (8 * L.length : Nat)) := by rw [cell_of_block h.blk]; rfl
theorem Wr.f {w : World} {b : Nat} {v : Value} {L : List Int} (h : Wr w b v L) (o : Nat) : w.frozen? ⟨b, o, none⟩ = false := frozen_of_block h.blk o

theorem good_any (k : Nat) (hk : k ≤ 64) (w : World) : Calls Tryz.prog 154 #[.int .i64 k] w fun e w' => e = .returned (.bool true) ∧ w' = w := by
  have h : (k : Int) ≤ 64 := by omega
  go_enter Tryz.func154, Tryz.ntmps154
  go_wp2
  go_ret
  exact ⟨rfl, rfl⟩

/-- .. and what was there before the first of its changes (w0). -/
structure PutAt (w0 : World) (b : Nat) (L : List Int) (v : Value) (w : World) : Prop where
  wr : Wr w b v L
  chg : CW 5 b w0 w
theorem PutAt.start {w : World} {b : Nat} {v : Value} {L : List Int} (h : Wr w b v L) : PutAt w b L v w := ⟨h, CW.refl _ _ _⟩
/-- the slice has grown by a byte 0, and the writer does not know it yet. -/
structure PutMid (w0 : World) (b : Nat) (M : List Int) (v v2 : Value) (w : World) : Prop where
  blk : w.heap[b]? = some (.cells #[v, .int .i64 (8 * M.length : Nat)] 180 (0, 0))
  own : w.ownsRow (b + 1) 5 1 v2 (M.length + 1) (M.map V8 ++ [V8 0])
  chg : CW 5 b w0 w
section
variable {w0 w w' : World} {b : Nat} {v v2 : Value} {M : List Int}
theorem PutMid.c0 (h : PutMid w0 b M v v2 w) : w.cell? ⟨b, 0, none⟩ = some v := by rw [cell_of_block h.blk]; rfl
theorem PutMid.c1 (h : PutMid w0 b M v v2 w) : w.cell? ⟨b, 1, none⟩ = some (.int .i64 (8 * M.length : Nat)) := by rw [cell_of_block h.blk]; rfl
theorem PutMid.f (h : PutMid w0 b M v v2 w) (o : Nat) : w.frozen? ⟨b, o, none⟩ = false := frozen_of_block h.blk o
theorem PutMid.store (h : PutMid w0 b M v v2 w) : PutMid w0 b M v2 v2 (w.setCell ⟨b, 0, none⟩ v2) := by
  have g : Chg (· = b) w (w.setCell ⟨b, 0, none⟩ v2) := Chg.set w ⟨b, 0, none⟩ _ rfl
  refine ⟨?_, own_chg h.own g (fun k hk e => ?_), h.chg.trans (CW.self g)⟩
  · have := block_set h.blk 0 v2; simpa using this
  · have := (own_in h.own hk).1; have : k = b := e; omega
theorem PutMid.kept (h : PutMid w0 b M v v2 w) (g : Chg (fun _ => False) w w') : PutMid w0 b M v v2 w' :=
  ⟨Chg.keep g h.blk (fun e => e), own_chg h.own g (fun _ _ e => e), h.chg.trans (CW.none g)⟩
theorem PutMid.done {g cap : Nat} (h : PutMid w0 b M (.slice (some ⟨g, 0, none⟩) (M.length + 1) cap) (.slice (some ⟨g, 0, none⟩) (M.length + 1) cap) w) (r : Int) (m : Int) (hm : m = (8 * (M.length + 1) : Nat)) :
    PutAt w0 b (M ++ [r]) (.slice (some ⟨g, 0, none⟩) (M.length + 1) cap) ((w.setCell ⟨g, M.length, none⟩ (.int .u8 r)).setCell ⟨b, 1, none⟩ (.int .i64 m)) := by
  obtain ⟨hgb, hgl⟩ := own_in h.own (j := g) rfl
  have g1 : Chg (· = g) w (w.setCell ⟨g, M.length, none⟩ (.int .u8 r)) := Chg.set w ⟨g, M.length, none⟩ _ rfl
  have g1' := CW.row h.own (g1.mono (fun j _ e => by rw [show j = g from e]; rfl))
  have hb1 := Chg.keep g1 h.blk (fun e => by have : b = g := e; omega)
  have ho1 := own_set h.own M.length (.int .u8 r) (by omega)
  generalize w.setCell ⟨g, M.length, none⟩ (.int .u8 r) = w1 at *
  have g2 : Chg (· = b) w1 (w1.setCell ⟨b, 1, none⟩ (.int .i64 m)) := Chg.set w1 ⟨b, 1, none⟩ _ rfl
  refine ⟨⟨?_, ?_⟩, (h.chg.trans g1').trans (CW.self g2)⟩
  · have := block_set hb1 1 (.int .i64 m)
    rw [this, hm]; simp
  · have := own_chg ho1 g2 (fun k hk e => by cases hk; have : g = b := e; omega)
    have e : (M.map V8 ++ [V8 0]).set M.length (.int .u8 r) = (M ++ [r]).map V8 := by
      have e1 : (M.map V8).length = M.length := by simp
      rw [List.set_append, if_neg (by omega), e1]; simp [V8]
    rw [e] at this
    simpa using this
theorem PutAt.app {o : Obj} (h : PutAt w0 b M v w) (hown : w'.ownsRow (b + 1) 5 1 v2 (M.length + 1) (M.map V8 ++ [.int .u8 0])) (hgr : (w.alloc o).grownBy w' v.ownBlock) : PutMid w0 b M v v2 w' := by
  have ga := Chg.alloc (fun _ => False) w o
  have g := chg_grown (S := fun j => v.ownBlock = some j) hgr (fun j e => e)
  have hoa := own_chg h.wr.own ga (fun _ _ e => e)
  refine ⟨Chg.keep g (Chg.keep ga h.wr.blk (fun e => e)) (fun e => ?_), hown, (h.chg.trans (CW.none ga)).trans (CW.row hoa g)⟩
  have := (own_in h.wr.own e).1; omega
end
def PPut (w : World) (b : Nat) (L : List Int) (e : Ending) (w' : World) : Prop :=
  e = .returned (.tuple #[]) ∧ ∃ v', Wr w' b v' L ∧ CW 5 b w w'
set_option maxRecDepth 100000 in
set_option maxHeartbeats 4000000 in
theorem put_any (k : Nat) (hk : k ≤ 8) (n : Int) (hn : 0 ≤ n) (hn2 : n < 18446744073709551616) (w : World) (b : Nat) (v : Value) (L : List Int) (h : Wr w b v L) (hL : L.length ≤ 100000) :
    Calls Tryz.prog 100 #[.pointer (some ⟨b, 0, none⟩), .int .u64 n, .int .i64 (8 * k : Nat)] w (PPut w b (L ++ be k n)) := by
  have hg := good_any (8 * k) (by omega)
  have hk2 : ((8 * k : Nat) : Int) ≤ 64 := by omega
  have hk3 : 0 ≤ ((8 * k : Nat) : Int) := by omega
  have H := Lib.hid h
  clear h
  go_enter Tryz.func100, Tryz.ntmps100
  go_wp2_with fail
  refine (hg _).mono ?_
  rintro e w1 ⟨rfl, rfl⟩
  go_wp2_with fail
  go_loopw [6] (fun u6 wr => ∃ (i : Nat) (v' : Value), i ≤ k ∧ u6 = .int .i64 (8 * (k - i) : Nat) ∧ PutAt w1 b (L ++ (be k n).take i) v' wr) (fun u6 _ => (intOf u6).toNat)
  case atStart => exact ⟨0, v, by omega, rfl, by simpa using PutAt.start H.out⟩
  case round =>
    obtain ⟨i, v', hi, rfl, hP⟩ := hrel
    by_cases hlt : i < k
    · obtain ⟨M, hM⟩ : ∃ M, M = L ++ (be k n).take i := ⟨_, rfl⟩
      rw [← hM] at hP
      have hMl : M.length ≤ 100008 := by rw [hM]; simp [be_len]; omega
      obtain ⟨lf, hlf⟩ : ∃ lf : Int, lf = ((8 * (k - i) : Nat) : Int) := ⟨_, rfl⟩
      rw [← hlf]
      have h8 : 8 ≤ lf := by omega
      have h64 : lf ≤ 64 := by omega
      have hl0 : 0 < lf := by omega
      have c0 := hP.wr.c0
      have c1 := hP.wr.c1
      have f0 := hP.wr.f 0
      obtain ⟨m8, hm8⟩ : ∃ m8 : Int, m8 = ((8 * M.length : Nat) : Int) := ⟨_, rfl⟩
      rw [← hm8] at c1
      have hl8 : m8 % 8 = 0 := by omega
      have hl9 : 0 ≤ m8 := by omega
      have hl7 : m8 ≤ 1000000 := by omega
      have HP := Lib.hid hP
      have HM := Lib.hid hM
      have HLF := Lib.hid hlf
      have HM8 := Lib.hid hm8
      clear hP hM hlf hm8
      go_wp2_with (at_builtin; go_loud (refine app8 rfl (.tmp 30) (.tmp 31) rfl (b + 1) v' M.length (M.map V8) rfl (HP.out.wr.own.alloc _) ⟨wr.heap.size, 0, none⟩ 1 1 [.int .u8 0] rfl rfl ?c1 ?c2 (by omega) ?hb ?grow))
      case c1 => intro j u hj; match j, hj with | 0, hj => simp at hj; subst hj; simp [Addr.add]
      case c2 => intro u hu; simp at hu; subst hu; rfl
      case hb => simp; have := lt_of_block HP.out.wr.blk; omega
      case grow =>
        intro v2 w2 hown hgr hnil
        have P2 := PutAt.app HP.out hown hgr
        clear hown hgr hnil c0 c1 f0
        obtain ⟨g, cap, _, rfl, hgb, _, _, _, _, _⟩ := own_pos P2.own (by omega)
        have c0 := P2.c0
        have c1 := P2.c1
        rw [← HM8.out] at c1
        have f0 := P2.f 0
        have f1 := P2.f 1
        have hgb2 : g ≠ b := by omega
        have d0 := own_cell P2.own M.length (V8 0) (by simp)
        have df := own_frozen P2.own M.length
        have HP2 := Lib.hid P2
        have HO := Lib.hid hgb
        clear P2 hgb
        go_wp2_with fail
        have e1 : IntKind.i64.wrap (lf - 8) = lf - 8 := IntWalk.i64_in _ (by omega)
        have e2 : lf - 8 ≤ 64 := by omega
        obtain ⟨q, e3⟩ : ∃ q, n / 2 ^ (lf - 8).toNat = q := ⟨_, rfl⟩
        obtain ⟨r, e4⟩ : ∃ r, IntKind.u8.wrap q = r := ⟨_, rfl⟩
        have hr0 : 0 ≤ r ∧ r < 256 := by rw [← e4, u8_wrap]; omega
        have e5 : IntKind.u8.wrap 256 = 0 := by decide
        have e6 : IntKind.u8.wrap (-1) = 255 := by decide
        have e7 := and255 r hr0.1 hr0.2
        with_reducible refine wp_region_still_lit (by kernel_rfl) (by kernel_rfl) ?_
        repeat (with_reducible refine wpStill_step (fun K hK => ?_); go_simp; with_reducible refine hK _ ?_; clear hK K)
        with_reducible refine wpStill_nil ?_
        change Exit.then _ _ _ _ (w2.setCell ⟨b, 0, none⟩ (Value.slice (some ⟨g, 0, none⟩) (M.length + 1) cap)).drew
        have P3 := (HP2.out.store).kept (Chg.drew (fun _ => False) _)
        clear e1 e2 e5 e6 e7 c0 c1 f0 f1 d0 df HP2
        generalize (w2.setCell ⟨b, 0, none⟩ (Value.slice (some ⟨g, 0, none⟩) (M.length + 1) cap)).drew = w3 at *
        have c0 := P3.c0
        have d0 := own_cell P3.own M.length (V8 0) (by simp)
        unfold V8 at d0
        have HP3 := Lib.hid P3
        clear P3
        obtain ⟨ml, hml⟩ : ∃ ml : Int, ml = M.length := ⟨_, rfl⟩
        have e1 : IntKind.i64.wrap (M.length : Int) = M.length := IntWalk.i64_in _ (by omega)
        have e2 : IntKind.u8.wrap r = r := u8_in r hr0.1 hr0.2
        have e5 := or0 r hr0.1 hr0.2
        have e6 : IntKind.i64.wrap 0 = 0 := by decide
        have i1 : (M.length : Int) < (M.length : Int) + 1 := by omega
        have HR := Lib.hid e4
        clear e4
        go_wp2_with fail
        go_still_tail 19, (by kernel_rfl)
        change wpList _ _ _ _ _ w3.drew
        clear e1 e2 e5 e6 d0 c0
        have P4 := HP3.out.kept (Chg.drew (fun _ => False) w3)
        clear HP3
        generalize w3.drew = w4 at *
        have c1 := P4.c1
        rw [← HM8.out] at c1
        have f1 := P4.f 1
        have df := own_frozen P4.own M.length
        have d0 := own_cell P4.own M.length (V8 0) (by simp)
        unfold V8 at d0
        have HP4 := Lib.hid P4
        clear P4
        go_wp2_with fail
        have hnx : L ++ (be k n).take (i + 1) = M ++ [r] := by
          rw [be_take k n i hlt, ← List.append_assoc, ← HM.out, ← HR.out, u8_wrap, ← e3, HLF.out,
            show (((8 * (k - i) : Nat) : Int) - 8).toNat = 8 * (k - 1 - i) from by omega, Int.pow_mul]
          rfl
        have PE := HP4.out.done r (m8 + 8) (by rw [HM8.out]; omega)
        rw [← hnx] at PE
        have hle : lf - 8 = ((8 * (k - (i + 1)) : Nat) : Int) := by rw [HLF.out]; omega
        have HX := Lib.hid (And.intro PE hle)
        clear PE hle hnx e3
        go_roundw
        case measure => simp [intOf]; omega
        case rel => exact ⟨i + 1, _, by omega, congrArg _ HX.out.2, HX.out.1⟩
    · obtain rfl : i = k := by omega
      have hz : ((8 * (i - i) : Nat) : Int) = 0 := by simp
      rw [hz]
      have HP := Lib.hid hP
      clear hP hz H
      go_wp2_with fail
      go_end0
      have h := HP.out
      rw [List.take_of_length_le (by rw [be_len]; omega)] at h
      exact ⟨rfl, _, h.wr, h.chg⟩

set_option maxRecDepth 100000 in
set_option maxHeartbeats 4000000 in
theorem text_any (w : World) (b : Nat) (v : Value) (L : List Int) (a : Option Addr) (len cap : Nat) (zs : List Int) (h : Wr w b v L) (hs : Rs V8 w b a len zs) (hz : ∀ z ∈ zs, 0 ≤ z ∧ z < 256) (hL : L.length + len ≤ 100000) :
    Calls Tryz.prog 101 #[.pointer (some ⟨b, 0, none⟩), .slice a len cap] w (PPut w b (L ++ zs)) := by
  have H := Lib.hid h
  have HS := Lib.hid hs
  have HZ := Lib.hid hz
  have hlen : len ≤ 100000 := by omega
  clear h hs hz
  go_enter Tryz.func101, Tryz.ntmps101
  go_wp2_with fail
  go_loopw [8] (fun i wr => ∃ (k : Nat) (v' : Value), k ≤ len ∧ i = .int .i64 k ∧ PutAt w b (L ++ zs.take k) v' wr) (fun i _ => len - (intOf i).toNat)
  case atStart => exact ⟨0, v, by omega, rfl, by simpa using PutAt.start H.out⟩
  case round =>
    obtain ⟨k, v', hk, rfl, hP⟩ := hrel
    have HP := Lib.hid hP
    clear hP
    by_cases hlt : k < len
    · obtain ⟨x, z, rfl, hxb, hz, hc⟩ := (HS.out.keep HP.out.chg.chg (fun j h1 h2 => by omega)).at hlt
      obtain ⟨z0, z1⟩ := HZ.out z (List.mem_of_getElem? hz)
      have HX := Lib.hid hz
      unfold V8 at hc
      clear hz
      go_wp2_with fail
      have hl2 : (L ++ zs.take k).length ≤ 100000 := by have := HS.out.1; simp; omega
      have hp := put_any 1 (by omega) z z0 (by omega) wr b v' (L ++ zs.take k) HP.out.wr hl2
      rw [show ((8 * 1 : Nat) : Int) = 8 from rfl] at hp
      refine hp.mono ?_
      rintro e w1 ⟨rfl, v1, W1, C1⟩
      have hn : L ++ zs.take k ++ be 1 z = L ++ zs.take (k + 1) := by
        rw [List.take_add_one, HX.out, List.append_assoc]
        congr 2
        simp [be]; omega
      rw [hn] at W1
      have hn3 : (k : Int) + 1 ≤ 100000 := by omega
      have HN : Hid (PutAt w b (L ++ zs.take (k + 1)) v1 w1) := Lib.hid ⟨W1, HP.out.chg.trans C1⟩
      clear hn W1 C1 hp hl2 hc
      go_wp2_with fail
      go_roundw
      case measure => simp [intOf]; omega
      case rel => exact ⟨k + 1, _, by omega, by go_num, HN.out⟩
    · obtain rfl : k = len := by omega
      go_wp2_with fail
      go_end0
      have h := HP.out
      rw [List.take_of_length_le (by have := HS.out.1; omega)] at h
      exact ⟨rfl, _, h.wr, h.chg⟩

set_option maxRecDepth 100000 in
set_option maxHeartbeats 4000000 in
theorem bytes_any (w : World) (b : Nat) (v : Value) (L : List Int) (h : Wr w b v L) (hL : L.length ≤ 100000) :
    Calls Tryz.prog 103 #[.pointer (some ⟨b, 0, none⟩)] w (PNew V8 5 w L) := by
  have c0 := h.c0
  obtain ⟨A, c, rfl, hr, hA⟩ := Rs.of_own h.own
  have HA := Lib.hid hA
  have HR := Lib.hid hr
  clear h hA hr
  go_enter Tryz.func103, Tryz.ntmps103
  go_wp2_with (at_builtin; go_loud (refine appS el8 rfl (.const (.slice none 0 0)) (.tmp 8) rfl w.heap.size (.slice none 0 0) 0 [] rfl (World.ownsRow_nil _ _ _ _) w.heap.size A L.length c L rfl HA.out HR.out (fun _ => rfl) (by omega) (by omega) (Nat.le_refl _) ?grow))
  case grow =>
    intro v' w' hown hgr hat
    have g := chg_grown (S := fun _ => False) hgr (fun j e => by cases e)
    have HO := Lib.hid (And.intro hown g)
    clear hown hgr hat g
    go_wp2_with fail
    go_ret
    exact ⟨_, rfl, HO.out.1, HO.out.2⟩
end Go.Proofs.YtnpihllannobgaaGreatDoor
namespace Go.Proofs.YtnpihllannobgaaGreatDoor
set_option linter.unusedVariables false
set_option linter.unusedSimpArgs false
open Go.ChangeShapes Go.WideShapes Go.ChangeAt Go.RowKit

/-- a reader lies in block r: its bytes L, which bit is next, what failed. -/
structure Rd (w : World) (r : Nat) (a : Option Addr) (c : Nat) (L : List Int) (p : Int) (e : Int) : Prop where
  blk : w.heap[r]? = some (.cells #[.slice a L.length c, .int .i64 p, .int .i64 e] 237 (0, 0))
  rd : Rs V8 w r a L.length L
section
variable {w w' : World} {r c : Nat} {a : Option Addr} {L : List Int} {p e : Int}
theorem Rd.c0 (h : Rd w r a c L p e) : w.cell? ⟨r, 0, none⟩ = some (.slice a L.length c) := by rw [cell_of_block h.blk]; rfl
theorem Rd.c1 (h : Rd w r a c L p e) : w.cell? ⟨r, 1, none⟩ = some (.int .i64 p) := by rw [cell_of_block h.blk]; rfl
theorem Rd.c2 (h : Rd w r a c L p e) : w.cell? ⟨r, 2, none⟩ = some (.int .i64 e) := by rw [cell_of_block h.blk]; rfl
theorem Rd.f (h : Rd w r a c L p e) (o : Nat) : w.frozen? ⟨r, o, none⟩ = false := frozen_of_block h.blk o
theorem Rd.kept (h : Rd w r a c L p e) (g : Chg (fun _ => False) w w') : Rd w' r a c L p e := ⟨Chg.keep g h.blk (fun e => e), h.rd.keep g (fun _ _ e => e)⟩
theorem Rd.keep {S : Nat → Prop} (h : Rd w r a c L p e) (g : Chg S w w') (hS : ∀ j, j ≤ r → ¬ S j) : Rd w' r a c L p e := ⟨Chg.keep g h.blk (hS r (Nat.le_refl _)), h.rd.keep g (fun j hj => hS j (by omega))⟩
theorem Rd.set1 (h : Rd w r a c L p e) (q : Int) : Rd (w.setCell ⟨r, 1, none⟩ (.int .i64 q)) r a c L q e :=
  ⟨by have := block_set h.blk 1 (.int .i64 q); simpa using this, h.rd.keep (Chg.set (S := (· = r)) w ⟨r, 1, none⟩ _ rfl) (fun j h1 h2 => by have : j = r := h2; omega)⟩
end
def PRd (w : World) (r : Nat) (a : Option Addr) (c : Nat) (L : List Int) (p e : Int) (v : Value) (en : Ending) (w' : World) : Prop :=
  en = .returned v ∧ Rd w' r a c L p e ∧ Chg (· = r) w w'

theorem left_any (w : World) (r : Nat) (a : Option Addr) (c : Nat) (L : List Int) (p e : Int) (h : Rd w r a c L p e) (hL : L.length ≤ 100000) (hp : 0 ≤ p ∧ p ≤ 800000) :
    Calls Tryz.prog 165 #[.pointer (some ⟨r, 0, none⟩)] w fun en w' => en = .returned (.int .i64 (8 * L.length - p)) ∧ w' = w.drew := by
  obtain ⟨hp0, hp1⟩ := hp
  have c0 := h.c0
  have c1 := h.c1
  clear h
  have e1 : IntKind.i64.wrap (8 * (L.length : Int)) = 8 * L.length := IntWalk.i64_in _ (by omega)
  have e2 : IntKind.i64.wrap (8 * (L.length : Int) - p) = 8 * L.length - p := IntWalk.i64_in _ (by omega)
  go_enter Tryz.func165, Tryz.ntmps165
  go_wp2_with fail
  with_reducible refine wp_region_still_lit (by kernel_rfl) (by kernel_rfl) ?_
  repeat (with_reducible refine wpStill_step (fun K hK => ?_); go_simp; with_reducible refine hK _ ?_; clear hK K)
  with_reducible refine wpStill_nil ?_
  clear e1 e2
  change Exit.then _ _ _ _ w.drew
  go_wp2_with fail
  go_ret
  exact ⟨rfl, rfl⟩
theorem rbytes_any (w : World) (r : Nat) (a : Option Addr) (c : Nat) (L : List Int) (p e : Int) (h : Rd w r a c L p e) :
    Calls Tryz.prog 164 #[.pointer (some ⟨r, 0, none⟩)] w fun en w' => en = .returned (.slice a L.length c) ∧ w' = w := by
  have c0 := h.c0
  clear h
  go_enter Tryz.func164, Tryz.ntmps164
  go_wp2_with fail
  go_ret
  exact ⟨rfl, rfl⟩
theorem fails_any (w : World) (r : Nat) (a : Option Addr) (c : Nat) (L : List Int) (p e : Int) (h : Rd w r a c L p e) (x : Int) :
    Calls Tryz.prog 214 #[.pointer (some ⟨r, 0, none⟩), .int .i64 x] w (PRd w r none 0 [] 0 x (.tuple #[])) := by
  have c0 := h.c0
  have c1 := h.c1
  have c2 := h.c2
  have f0 := h.f 0
  have f1 := h.f 1
  have f2 := h.f 2
  have hb := h.blk
  have H := Lib.hid hb
  clear h hb
  go_enter Tryz.func214, Tryz.ntmps214
  go_wp2_with fail
  go_end0
  have h1 := block_set H.out 2 (.int .i64 x)
  have h2 := block_set h1 0 (.slice none 0 0)
  have h3 := block_set h2 1 (.int .i64 0)
  refine ⟨rfl, ⟨?_, Rs.nil _ _ _ _⟩, ((chg1 _ _ _ _).trans (chg1 _ _ _ _)).trans (chg1 _ _ _ _)⟩
  simpa using h3
/-- n bits are there. -/
theorem ready_ok (w : World) (r : Nat) (a : Option Addr) (c : Nat) (L : List Int) (p n : Int) (h : Rd w r a c L p 0) (hL : L.length ≤ 100000) (hp : 0 ≤ p ∧ p ≤ 800000) (hn : n ≤ 8 * L.length - p) :
    Calls Tryz.prog 163 #[.pointer (some ⟨r, 0, none⟩), .int .i64 n] w (PRd w r a c L p 0 (.bool true)) := by
  have c2 := h.c2
  have hl := left_any w r a c L p 0 h hL hp
  have H := Lib.hid h
  obtain ⟨q, hq⟩ : ∃ q : Int, q = 8 * (L.length : Int) - p := ⟨_, rfl⟩
  rw [← hq] at hl hn
  clear h hq hL hp
  go_enter Tryz.func163, Tryz.ntmps163
  go_wp2_with fail
  refine hl.mono ?_
  rintro e w1 ⟨rfl, rfl⟩
  go_wp2_with fail
  go_ret
  exact ⟨rfl, H.out.kept (Chg.drew _ _), Chg.drew _ _⟩
/-- they are not. -/
theorem ready_short (w : World) (r : Nat) (a : Option Addr) (c : Nat) (L : List Int) (p n : Int) (h : Rd w r a c L p 0) (hL : L.length ≤ 100000) (hp : 0 ≤ p ∧ p ≤ 800000) (hn : 8 * L.length - p < n) :
    Calls Tryz.prog 163 #[.pointer (some ⟨r, 0, none⟩), .int .i64 n] w (PRd w r none 0 [] 0 2 (.bool false)) := by
  have c2 := h.c2
  have hl := left_any w r a c L p 0 h hL hp
  have H := Lib.hid h
  obtain ⟨q, hq⟩ : ∃ q : Int, q = 8 * (L.length : Int) - p := ⟨_, rfl⟩
  rw [← hq] at hl hn
  clear h hq hL hp
  go_enter Tryz.func163, Tryz.ntmps163
  go_wp2_with fail
  refine hl.mono ?_
  rintro e w1 ⟨rfl, rfl⟩
  go_wp2_with fail
  refine (fails_any _ _ _ _ _ _ _ (H.out.kept (Chg.drew _ _)) 2).mono ?_
  rintro e w1 ⟨rfl, R, G⟩
  have HR := Lib.hid (And.intro R G)
  clear R G hl
  go_wp2_with fail
  go_ret
  exact ⟨rfl, HR.out.1, (Chg.drew _ _).trans HR.out.2⟩
/-- it had failed. -/
theorem ready_bad (w : World) (r : Nat) (a : Option Addr) (c : Nat) (L : List Int) (p n e : Int) (h : Rd w r a c L p e) (he : (e == 0) = false) :
    Calls Tryz.prog 163 #[.pointer (some ⟨r, 0, none⟩), .int .i64 n] w (PRd w r a c L p e (.bool false)) := by
  have c2 := h.c2
  have H := Lib.hid h
  have he2 : (e != 0) = true := by simpa using he
  clear h
  go_enter Tryz.func163, Tryz.ntmps163
  go_wp2_with fail
  go_ret
  exact ⟨rfl, H.out, Chg.refl _ _⟩
set_option maxHeartbeats 4000000 in
set_option maxRecDepth 100000 in
theorem bit_any (w : World) (r : Nat) (a : Option Addr) (c : Nat) (L : List Int) (p : Nat) (h : Rd w r a c L p 0) (hb : ∀ x ∈ L, 0 ≤ x ∧ x < 256) (hL : L.length ≤ 100000) (hp : p < 8 * L.length) :
    Calls Tryz.prog 213 #[.pointer (some ⟨r, 0, none⟩)] w (PRd w r a c L ((p + 1 : Nat) : Int) 0 (.int .u64 (bitAt L p))) := by
  have c0 := h.c0
  have c1 := h.c1
  obtain ⟨x, z, rfl, hx, hz, hc⟩ := h.rd.at (i := p / 8) (by omega)
  unfold V8 at hc
  obtain ⟨z0, z1⟩ := hb z (List.mem_of_getElem? hz)
  have f1 := h.f 1
  have hba : bitAt L p = z / 2 ^ (7 - p % 8) % 2 := by unfold bitAt; rw [hz]; rfl
  rw [hba]
  obtain ⟨q, hq⟩ : ∃ q : Nat, q = p / 8 := ⟨_, rfl⟩
  obtain ⟨j, hj⟩ : ∃ j : Nat, j = p % 8 := ⟨_, rfl⟩
  rw [← hq] at hc hz
  rw [← hj]
  obtain ⟨P, hP⟩ : ∃ P : Int, P = (p : Int) := ⟨_, rfl⟩
  rw [← hP] at c1
  have H := Lib.hid h
  have e1 : P.tdiv 8 = (q : Int) := by rw [hP, Int.tdiv_eq_ediv_of_nonneg (by omega)]; omega
  have e2 : P.tmod 8 = (j : Int) := by rw [hP, Int.tmod_eq_emod_of_nonneg (by omega)]; omega
  have e3 : IntKind.i64.wrap (7 - (j : Int)) = 7 - j := IntWalk.i64_in _ (by omega)
  have e4 : IntKind.i64.wrap (q : Int) = q := IntWalk.i64_in _ (by omega)
  have e5 : (j : Int) ≤ 7 := by omega
  have e6 : 7 - (j : Int) ≤ 8 := by omega
  have i1 : (q : Int) < (L.length : Int) := by omega
  have e7 : (7 - (j : Int)).toNat = 7 - j := by omega
  obtain ⟨y, hy⟩ : ∃ y, y = z / 2 ^ (7 - j) := ⟨_, rfl⟩
  have hy0 : 0 ≤ y ∧ y < 256 := by
    rw [hy]
    have h2 : (0 : Int) < 2 ^ (7 - j) := Int.pow_pos (by omega)
    exact ⟨Int.ediv_nonneg z0 (Int.le_of_lt h2), Int.lt_of_le_of_lt (Int.ediv_le_self _ z0) z1⟩
  have e8 := and_bit y hy0.1 hy0.2
  rw [← hy]
  have e9 := hy.symm
  have HP := Lib.hid hP
  have HB := Lib.hid (show 0 ≤ y % 2 ∧ y % 2 < 2 ∧ P ≤ 800000 ∧ 0 ≤ P from by omega)
  clear hba hq hj hP hx hz h hp hL hb hy hy0 z0 z1
  go_enter Tryz.func213, Tryz.ntmps213
  go_wp2_with fail
  with_reducible refine wp_region_still_lit (by kernel_rfl) (by kernel_rfl) ?_
  repeat (with_reducible refine wpStill_step (fun K hK => ?_); go_simp; with_reducible refine hK _ ?_; clear hK K)
  with_reducible refine wpStill_nil ?_
  change Exit.then _ _ _ _ w.drew
  have H1 := Lib.hid (H.out.kept (Chg.drew (fun _ => False) w))
  clear e1 e2 e3 e4 e5 e6 e7 e8 e9 i1 c0 hc H
  have g1 := Chg.drew (· = r) w
  generalize w.drew = w1 at *
  obtain ⟨b0, b1, b2, b3⟩ := HB.out
  generalize y % 2 = z at *
  have HG := Lib.hid g1
  clear g1 HB c1 f1
  have c1 := H1.out.c1
  rw [← HP.out] at c1
  have f1 := H1.out.f 1
  go_wp2_with fail
  go_ret
  refine ⟨rfl, ?_, HG.out.trans (chg1 _ _ _ _)⟩
  have := H1.out.set1 (P + 1)
  rw [HP.out] at this ⊢
  exact this

/-- a number of m whole bytes, read bit by bit. -/
def take (L : List Int) (k m : Nat) : Int := bv L (8 * k) (8 * m)
set_option maxHeartbeats 4000000 in
set_option maxRecDepth 100000 in
theorem take_ok (w : World) (r : Nat) (a : Option Addr) (c : Nat) (L : List Int) (k m : Nat) (h : Rd w r a c L (8 * k : Nat) 0) (hb : ∀ x ∈ L, 0 ≤ x ∧ x < 256) (hL : L.length ≤ 100000) (hm : m ≤ 8) (hk : k + m ≤ L.length) :
    Calls Tryz.prog 162 #[.pointer (some ⟨r, 0, none⟩), .int .i64 (8 * m : Nat)] w (PRd w r a c L (8 * (k + m) : Nat) 0 (.int .u64 (take L k m))) := by
  have h88 : ((8 * m : Nat) : Int) ≤ 64 := by omega
  have hg := good_any (8 * m) (by omega)
  have hr := ready_ok w r a c L (8 * k : Nat) (8 * m : Nat) h hL (by omega) (by omega)
  obtain ⟨N, hN⟩ : ∃ N : Nat, N = 8 * m := ⟨_, rfl⟩
  obtain ⟨P, hP⟩ : ∃ P : Nat, P = 8 * k := ⟨_, rfl⟩
  rw [← hN] at hg hr ⊢
  rw [← hP] at hr
  have hN64 : (N : Int) ≤ 64 := by omega
  have hpn : P + N ≤ 8 * L.length := by omega
  have hfin : take L k m = bv L P N := by rw [hP, hN]; rfl
  rw [hfin, show 8 * (k + m) = P + N from by omega]
  have HB := Lib.hid hb
  clear h hb hfin hP hk hm h88 hN
  go_enter Tryz.func162, Tryz.ntmps162
  go_wp2_with fail
  refine (hg _).mono ?_
  rintro e w1 ⟨rfl, rfl⟩
  go_wp2_with fail
  refine hr.mono ?_
  rintro e w2 ⟨rfl, R2, G2⟩
  have H2 := Lib.hid (And.intro R2 G2)
  clear R2 G2 hg hr
  go_wp2_with fail
  go_loopw [5, 16] (fun u5 i wr => ∃ (j : Nat), j ≤ N ∧ u5 = .int .u64 (bv L P j) ∧ i = .int .i64 j ∧ Rd wr r a c L (P + j : Nat) 0 ∧ Chg (· = r) w1 wr) (fun _ i _ => N - (intOf i).toNat)
  case atStart => exact ⟨0, by omega, rfl, rfl, H2.out.1, H2.out.2⟩
  case round =>
    obtain ⟨j, hj, rfl, rfl, hR, hG⟩ := hrel
    have HR := Lib.hid (And.intro hR hG)
    have hbv := bv_bd L P j
    have hbt := bitAt_bd L (P + j)
    clear hR hG
    by_cases hlt : j < N
    · have hsm : bv L P j < 9223372036854775808 := by
        have h2 := Nat.pow_le_pow_right (n := 2) (by omega) (show j ≤ 63 by omega)
        have h3 : ((2 ^ j : Nat) : Int) = (2 : Int) ^ j := by push_cast; rfl
        have h4 : (2 : Nat) ^ 63 = 9223372036854775808 := by decide
        omega
      obtain ⟨x, hx⟩ : ∃ x, x = bv L P j := ⟨_, rfl⟩
      obtain ⟨y, hy⟩ : ∃ y, y = bitAt L (P + j) := ⟨_, rfl⟩
      have hbit := bit_any wr r a c L (P + j) HR.out.1 HB.out hL (by omega)
      rw [← hx] at hbv hsm ⊢
      rw [← hy] at hbt hbit
      have hnx : bv L P (j + 1) = x * 2 + y := by simp only [bv]; rw [hx, hy]
      obtain ⟨x0, _⟩ := hbv
      obtain ⟨y0, y1⟩ := hbt
      have hor := or_bit x y x0 hsm ⟨y0, y1⟩
      have HNX := Lib.hid hnx
      have HBT := Lib.hid hbit
      clear hbit hnx hx hy
      have hwr : IntKind.u64.wrap (x * 2) = x * 2 := by
        simp only [IntKind.wrap, IntKind.bits, IntKind.signed]; simp; omega
      have HOR := Lib.hid hor
      have HWR := Lib.hid hwr
      clear hor hwr
      have hwr2 := HWR.out
      go_wp2_with fail
      clear hwr2
      refine HBT.out.mono ?_
      rintro e w3 ⟨rfl, R3, G3⟩
      rw [show P + j + 1 = P + (j + 1) from by omega] at R3
      have H3 := Lib.hid (And.intro R3 (HR.out.2.trans G3))
      have hor := HOR.out
      clear R3 G3 HBT
      go_wp2_with fail
      go_roundw
      case measure => simp [intOf]; omega
      case rel => exact ⟨j + 1, by omega, by rw [HNX.out], by go_num, H3.out.1, H3.out.2⟩
    · obtain rfl : j = N := by omega
      go_wp2_with fail
      go_ret
      exact ⟨rfl, HR.out.1, HR.out.2⟩
theorem take_short (w : World) (r : Nat) (a : Option Addr) (c : Nat) (L : List Int) (k m : Nat) (h : Rd w r a c L (8 * k : Nat) 0) (hL : L.length ≤ 100000) (hm : m ≤ 8) (hk0 : k ≤ L.length) (hk : L.length < k + m) :
    Calls Tryz.prog 162 #[.pointer (some ⟨r, 0, none⟩), .int .i64 (8 * m : Nat)] w (PRd w r none 0 [] 0 2 (.int .u64 0)) := by
  have hg := good_any (8 * m) (by omega)
  have hr := ready_short w r a c L (8 * k : Nat) (8 * m : Nat) h hL (by omega) (by omega)
  obtain ⟨N, hN⟩ : ∃ N : Nat, N = 8 * m := ⟨_, rfl⟩
  rw [← hN] at hg hr ⊢
  clear h hk hm hN hk0 hL
  go_enter Tryz.func162, Tryz.ntmps162
  go_wp2_with fail
  refine (hg _).mono ?_
  rintro e w1 ⟨rfl, rfl⟩
  go_wp2_with fail
  refine hr.mono ?_
  rintro e w2 ⟨rfl, R2, G2⟩
  have H2 := Lib.hid (And.intro R2 G2)
  clear R2 G2 hg hr
  go_wp2_with fail
  go_ret
  exact ⟨rfl, H2.out.1, H2.out.2⟩
theorem take_bad (w : World) (r : Nat) (a : Option Addr) (c : Nat) (L : List Int) (p e : Int) (m : Nat) (h : Rd w r a c L p e) (he : (e == 0) = false) (hm : m ≤ 8) :
    Calls Tryz.prog 162 #[.pointer (some ⟨r, 0, none⟩), .int .i64 (8 * m : Nat)] w (PRd w r a c L p e (.int .u64 0)) := by
  have hg := good_any (8 * m) (by omega)
  have hr := ready_bad w r a c L p (8 * m : Nat) e h he
  obtain ⟨N, hN⟩ : ∃ N : Nat, N = 8 * m := ⟨_, rfl⟩
  rw [← hN] at hg hr ⊢
  clear h hm hN
  go_enter Tryz.func162, Tryz.ntmps162
  go_wp2_with fail
  refine (hg _).mono ?_
  rintro e w1 ⟨rfl, rfl⟩
  go_wp2_with fail
  refine hr.mono ?_
  rintro e w2 ⟨rfl, R2, G2⟩
  have H2 := Lib.hid (And.intro R2 G2)
  clear R2 G2 hg hr
  go_wp2_with fail
  go_ret
  exact ⟨rfl, H2.out.1, H2.out.2⟩
theorem end_ok (w : World) (r : Nat) (a : Option Addr) (c : Nat) (L : List Int) (h : Rd w r a c L (8 * L.length : Nat) 0) (hL : L.length ≤ 100000) :
    Calls Tryz.prog 114 #[.pointer (some ⟨r, 0, none⟩)] w fun en w' => en = .returned (.int .i64 0) ∧ w' = w.drew := by
  have c2 := h.c2
  have hl := left_any w r a c L _ 0 h hL (by omega)
  rw [show 8 * (L.length : Int) - ((8 * L.length : Nat) : Int) = 0 from by omega] at hl
  clear h hL
  go_enter Tryz.func114, Tryz.ntmps114
  go_wp2_with fail
  refine hl.mono ?_
  rintro e w2 ⟨rfl, rfl⟩
  go_wp2_with fail
  go_ret
  exact ⟨rfl, rfl⟩
theorem end_more (w : World) (r : Nat) (a : Option Addr) (c : Nat) (L : List Int) (k : Nat) (h : Rd w r a c L (8 * k : Nat) 0) (hL : L.length ≤ 100000) (hk : k < L.length) :
    Calls Tryz.prog 114 #[.pointer (some ⟨r, 0, none⟩)] w fun en w' => en = .returned (.int .i64 3) ∧ w' = w.drew := by
  have c2 := h.c2
  have hl := left_any w r a c L _ 0 h hL (by omega)
  obtain ⟨q, hq⟩ : ∃ q : Int, q = 8 * (L.length : Int) - ((8 * k : Nat) : Int) := ⟨_, rfl⟩
  rw [← hq] at hl
  have hq0 : 0 < q := by omega
  clear h hL hk hq
  go_enter Tryz.func114, Tryz.ntmps114
  go_wp2_with fail
  refine hl.mono ?_
  rintro e w2 ⟨rfl, rfl⟩
  go_wp2_with fail
  go_ret
  exact ⟨rfl, rfl⟩
theorem end_bad (w : World) (r : Nat) (a : Option Addr) (c : Nat) (L : List Int) (p e : Int) (h : Rd w r a c L p e) (he : (e == 0) = false) :
    Calls Tryz.prog 114 #[.pointer (some ⟨r, 0, none⟩)] w fun en w' => en = .returned (.int .i64 e) ∧ w' = w := by
  have c2 := h.c2
  clear h
  go_enter Tryz.func114, Tryz.ntmps114
  go_wp2_with fail
  go_ret
  exact ⟨rfl, rfl⟩
theorem bv_byte (L : List Int) (k m : Nat) (x : Int) (hx : L[k + m]? = some x) (h0 : 0 ≤ x) (h1 : x < 256) : take L k (m + 1) = take L k m * 256 + x := by
  unfold take
  have e : ∀ i, i < 8 → bitAt L (8 * k + (8 * m + i)) = x / 2 ^ (7 - i) % 2 := fun i hi => by
    unfold bitAt
    rw [show (8 * k + (8 * m + i)) / 8 = k + m from by omega, show (8 * k + (8 * m + i)) % 8 = i from by omega, hx]; rfl
  rw [show 8 * (m + 1) = 8 * m + 7 + 1 from by omega]
  simp only [bv, Nat.add_assoc]
  rw [e 7 (by omega)]
  have e0 := e 0 (by omega); have e1 := e 1 (by omega); have e2 := e 2 (by omega); have e3 := e 3 (by omega)
  have e4 := e 4 (by omega); have e5 := e 5 (by omega); have e6 := e 6 (by omega)
  rw [e1, e2, e3, e4, e5, e6]
  rw [show (8 * k + 8 * m) = 8 * k + (8 * m + 0) from by omega, e0]
  simp only [Nat.sub_zero, Nat.reduceSub, Nat.sub_self, Int.reducePow, Int.pow_zero, Int.ediv_one, Int.pow_one]
  generalize bv L (8 * k) (8 * m) = y
  omega
theorem take_zero (L : List Int) (k : Nat) : take L k 0 = 0 := rfl
theorem take_one (L : List Int) (k : Nat) (x : Int) (hx : L[k]? = some x) (h0 : 0 ≤ x) (h1 : x < 256) : take L k 1 = x := by
  rw [bv_byte L k 0 x hx h0 h1, take_zero]; omega

def PNewRd (w : World) (L : List Int) (en : Ending) (w' : World) : Prop :=
  ∃ r a c, en = .returned (.pointer (some ⟨r, 0, none⟩)) ∧ Rd w' r a c L 0 0 ∧ w.heap.size ≤ r ∧ Chg (fun _ => False) w w'
set_option maxRecDepth 100000 in
set_option maxHeartbeats 4000000 in
theorem newrd_any (w : World) (A : Option Addr) (len c : Nat) (L : List Int) (h : Rs V8 w w.heap.size A len L) (hA : A = none → c = 0) (hL : len ≤ 100000) :
    Calls Tryz.prog 111 #[.slice A len c] w (PNewRd w L) := by
  have HA := Lib.hid hA
  have HR := Lib.hid h
  clear h hA
  go_enter Tryz.func111, Tryz.ntmps111
  go_wp2_with (at_builtin; go_loud (refine appS el8 rfl (.const (.slice none 0 0)) (.tmp 3) rfl w.heap.size (.slice none 0 0) 0 [] rfl (World.ownsRow_nil _ _ _ _) w.heap.size A len c L rfl HA.out HR.out (fun _ => rfl) (by omega) (by omega) (Nat.le_refl _) ?grow))
  case grow =>
    intro v' w' hown hgr hat
    have g := chg_grown (S := fun _ => False) hgr (fun j e => by cases e)
    obtain ⟨a2, c2, rfl, hr2, _⟩ := Rs.of_own (V := V8) (zs := L) (by simpa using hown)
    have HO := Lib.hid (And.intro hr2 g)
    have hlen := HR.out.1
    clear hown hgr hat g hr2
    go_wp2_with fail
    go_ret
    have ga := Chg.alloc (fun _ => False) w' (.cells #[.slice a2 len c2, .int .i64 0, .int .i64 0] 237)
    refine ⟨w'.heap.size, a2, c2, rfl, ⟨by rw [hlen]; exact block_alloc _ _, ?_⟩, HO.out.2.size, HO.out.2.trans ga⟩
    rw [hlen]
    exact HO.out.1.keep ga (fun _ _ e => e)
end Go.Proofs.YtnpihllannobgaaGreatDoor
namespace Go.Proofs.YtnpihllannobgaaGreatDoor
set_option linter.unusedVariables false
set_option linter.unusedSimpArgs false
open Go.ChangeShapes Go.WideShapes Go.ChangeAt Go.RowKit

def PText (w : World) (r : Nat) (a : Option Addr) (c : Nat) (L : List Int) (p e : Int) (zs : List Int) (en : Ending) (w' : World) : Prop :=
  ∃ v, en = .returned v ∧ w'.ownsRow w.heap.size 5 1 v zs.length (zs.map V8) ∧ Rd w' r a c L p e ∧ Chg (· = r) w w'
theorem rtext_zero (w : World) (r : Nat) (a : Option Addr) (c : Nat) (L : List Int) (p e : Int) (n : Int) (h : Rd w r a c L p e) (hn : n ≤ 0) :
    Calls Tryz.prog 113 #[.pointer (some ⟨r, 0, none⟩), .int .i64 n] w (PText w r a c L p e []) := by
  have H := Lib.hid h
  clear h
  go_enter Tryz.func113, Tryz.ntmps113
  go_wp2_with fail
  go_ret
  exact ⟨_, rfl, World.ownsRow_nil _ _ _ _, H.out, Chg.refl _ _⟩
theorem rtext_bad (w : World) (r : Nat) (a : Option Addr) (c : Nat) (L : List Int) (p e : Int) (n : Int) (h : Rd w r a c L p e) (he : (e == 0) = false) (hn : 0 < n) (hn2 : n ≤ 100000) (hL : L.length ≤ 100000) :
    Calls Tryz.prog 113 #[.pointer (some ⟨r, 0, none⟩), .int .i64 n] w (PText w r a c L p e []) := by
  have hb := rbytes_any w r a c L p e h
  have hr := fun m => ready_bad w r a c L p m e h he
  have hl2 : (L.length : Int) ≤ 100000 := by omega
  clear h hL
  rcases (by omega : (L.length : Int) + 1 < n ∨ n ≤ (L.length : Int) + 1) with hc | hc
  all_goals
    go_enter Tryz.func113, Tryz.ntmps113
    go_wp2_with fail
    refine hb.mono ?_
    rintro e w1 ⟨rfl, rfl⟩
    go_wp2_with fail
    refine (hr _).mono ?_
    rintro e w2 ⟨rfl, R2, G2⟩
    have H2 := Lib.hid (And.intro R2 G2)
    clear R2 G2 hr hb
    go_wp2_with fail
    go_ret
    exact ⟨_, rfl, World.ownsRow_nil _ _ _ _, H2.out.1, H2.out.2⟩
theorem rtext_short (w : World) (r : Nat) (a : Option Addr) (c : Nat) (L : List Int) (k : Nat) (n : Int) (h : Rd w r a c L (8 * k : Nat) 0) (hn : 0 < n) (hn2 : n ≤ 100000) (hL : L.length ≤ 100000) (hk0 : k ≤ L.length) (hk : L.length < k + n) :
    Calls Tryz.prog 113 #[.pointer (some ⟨r, 0, none⟩), .int .i64 n] w (PText w r none 0 [] 0 2 []) := by
  have hb := rbytes_any w r a c L _ _ h
  have hr := fun (m : Int) (hm : 8 * (L.length : Int) - ((8 * k : Nat) : Int) < m) => ready_short w r a c L (8 * k : Nat) m h hL (by omega) hm
  have hl2 : (L.length : Int) ≤ 100000 := by omega
  rcases (by omega : (L.length : Int) + 1 < n ∨ n ≤ (L.length : Int) + 1) with hc | hc
  · have hr2 := hr (((L.length : Int) + 1) * 8) (by omega)
    clear h hL hr hk hk0
    go_enter Tryz.func113, Tryz.ntmps113
    go_wp2_with fail
    refine hb.mono ?_
    rintro e w1 ⟨rfl, rfl⟩
    go_wp2_with fail
    refine hr2.mono ?_
    rintro e w2 ⟨rfl, R2, G2⟩
    have H2 := Lib.hid (And.intro R2 G2)
    clear R2 G2 hr2 hb
    go_wp2_with fail
    go_ret
    exact ⟨_, rfl, World.ownsRow_nil _ _ _ _, H2.out.1, H2.out.2⟩
  · have hr2 := hr (n * 8) (by omega)
    clear h hL hr hk hk0
    go_enter Tryz.func113, Tryz.ntmps113
    go_wp2_with fail
    refine hb.mono ?_
    rintro e w1 ⟨rfl, rfl⟩
    go_wp2_with fail
    refine hr2.mono ?_
    rintro e w2 ⟨rfl, R2, G2⟩
    have H2 := Lib.hid (And.intro R2 G2)
    clear R2 G2 hr2 hb
    go_wp2_with fail
    go_ret
    exact ⟨_, rfl, World.ownsRow_nil _ _ _ _, H2.out.1, H2.out.2⟩
/-- k bytes are read; what is read lies in v. -/
structure TAt (w0 : World) (r : Nat) (a : Option Addr) (c : Nat) (L : List Int) (k j : Nat) (v : Value) (w : World) : Prop where
  rd : Rd w r a c L (8 * (k + j) : Nat) 0
  own : w.ownsRow w0.heap.size 5 1 v j (((L.drop k).take j).map V8)
  chg : Chg (fun i => i = r ∨ w0.heap.size ≤ i) w0 w
set_option maxRecDepth 100000 in
set_option maxHeartbeats 4000000 in
theorem rtext_ok (w : World) (r : Nat) (a : Option Addr) (c : Nat) (L : List Int) (k n : Nat) (h : Rd w r a c L (8 * k : Nat) 0) (hb : ∀ x ∈ L, 0 ≤ x ∧ x < 256) (hn : 0 < n) (hL : L.length ≤ 100000) (hk : k + n ≤ L.length) :
    Calls Tryz.prog 113 #[.pointer (some ⟨r, 0, none⟩), .int .i64 n] w (PText w r a c L (8 * (k + n) : Nat) 0 ((L.drop k).take n)) := by
  have hby := rbytes_any w r a c L _ _ h
  have hr := ready_ok w r a c L (8 * k : Nat) ((n : Int) * 8) h hL (by omega) (by omega)
  have hc : (n : Int) < (L.length : Int) + 1 := by omega
  have hn1 : 0 < (n : Int) := by omega
  have hl2 : (L.length : Int) ≤ 100000 := by omega
  have hrw := lt_of_block h.blk
  have HB := Lib.hid hb
  have HRW := Lib.hid hrw
  have HK := Lib.hid (And.intro hL hk)
  have hn2 : (n : Int) ≤ 100000 := by omega
  clear h hL hk hn hb hrw
  go_enter Tryz.func113, Tryz.ntmps113
  go_wp2_with fail
  refine hby.mono ?_
  rintro e w1 ⟨rfl, rfl⟩
  go_wp2_with fail
  refine hr.mono ?_
  rintro e w2 ⟨rfl, R2, G2⟩
  have T2 : TAt w1 r a c L k 0 (.slice none 0 0) w2 := ⟨by simpa using R2, World.ownsRow_nil _ _ _ _, G2.mono (fun j _ h => .inl h)⟩
  have HT := Lib.hid T2
  clear R2 G2 T2 hr hby
  go_wp2_with fail
  go_loopw [5, 21] (fun u5 i wr => ∃ (j : Nat), j ≤ n ∧ i = .int .i64 j ∧ TAt w1 r a c L k j u5 wr) (fun _ i _ => n - (intOf i).toNat)
  case atStart => exact ⟨0, by omega, rfl, HT.out⟩
  case round =>
    obtain ⟨j, hj, rfl, hT⟩ := hrel
    have HT2 := Lib.hid hT
    clear hT HT
    by_cases hlt : j < n
    · have htk := take_ok wr r a c L (k + j) 1 HT2.out.rd HB.out HK.out.1 (by omega) (by have := HK.out.2; omega)
      rw [show ((8 * 1 : Nat) : Int) = 8 from rfl] at htk
      obtain ⟨x, hx⟩ : ∃ x, L[k + j]? = some x := ⟨_, List.getElem?_eq_getElem (by have := HK.out.2; omega)⟩
      obtain ⟨x0, x1⟩ := HB.out x (List.mem_of_getElem? hx)
      rw [take_one L (k + j) x hx x0 x1] at htk
      have hnx : (L.drop k).take (j + 1) = (L.drop k).take j ++ [x] := by
        rw [List.take_add_one, List.getElem?_drop, hx]; rfl
      have HN := Lib.hid hnx
      have HTK := Lib.hid htk
      have hw8 : IntKind.u8.wrap x = x := u8_in x x0 x1
      have HW8 := Lib.hid hw8
      clear hnx htk hx hw8
      go_wp2_with fail
      refine HTK.out.mono ?_
      rintro e w3 ⟨rfl, R3, G3⟩
      have HR3 := Lib.hid (And.intro R3 G3)
      have hsz := G3.size
      have hO3 : w3.ownsRow w1.heap.size 5 1 u5 j (((L.drop k).take j).map V8) := own_chg HT2.out.own G3 (fun i hi e => by
        have := (own_in HT2.out.own hi).1
        have := HRW.out
        have : i = r := e
        omega)
      have HO3 := Lib.hid hO3
      have HSZ := Lib.hid (show w1.heap.size ≤ w3.heap.size from Nat.le_trans HT2.out.chg.size hsz)
      have hw8 := HW8.out
      clear R3 G3 HTK hO3 hsz
      go_wp2_with (at_builtin; go_loud (refine app1 (V := V8) el8 rfl (.tmp 23) (.tmp 27) rfl w1.heap.size u5 j (((L.drop k).take j).map V8) rfl (HO3.out.alloc _) w3.heap.size x rfl ?c1 rfl (by omega) (by omega) ?hb ?grow))
      case c1 => simp [V8]
      case hb => have := HSZ.out; simp; omega
      case grow =>
        intro v4 w4 hown hgr hat
        have ga := Chg.alloc (fun _ => False) w3 (.cells #[.int .u8 x] 5)
        have gg := chg_grown (S := fun i => w1.heap.size ≤ i) hgr (fun i hi => (own_in HO3.out hi).1)
        have T4 : TAt w1 r a c L k (j + 1) v4 w4 := by
          refine ⟨?_, ?_, ?_⟩
          · have := (HR3.out.1.kept ga).keep gg (fun i hi h2 => by have := HRW.out; omega)
            rw [show k + (j + 1) = k + j + 1 from by omega]; exact this
          · rw [HN.out, List.map_append, List.map_take, List.map_drop]; exact hown
          · exact ((HT2.out.chg.trans (HR3.out.2.mono (fun i _ h => .inl h))).trans ga.none).trans (gg.mono (fun i _ h => .inr h))
        have HT4 := Lib.hid T4
        clear hown hgr hat ga gg T4 hw8
        go_wp2_with fail
        go_roundw
        case measure => simp [intOf]; omega
        case rel => exact ⟨j + 1, by omega, by go_num, HT4.out⟩
    · obtain rfl : j = n := by omega
      go_wp2_with fail
      go_ret
      have hl : ((L.drop k).take j).length = j := by have := HK.out.2; simp; omega
      exact ⟨_, rfl, by rw [hl]; exact HT2.out.own, HT2.out.rd, HT2.out.chg.old⟩
end Go.Proofs.YtnpihllannobgaaGreatDoor
