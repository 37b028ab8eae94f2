/-  No condition. -/
import Derived.Test.YtnpihllannobgaaGreatDoorG02
import Derived.WalkSpells
namespace Go.Proofs.YtnpihllannobgaaGreatDoor
set_option linter.unusedVariables false
set_option linter.unusedSimpArgs false
open Go.ChangeShapes Go.WideShapes Go.ChangeAt Go.RowKit

def sumBit (s : Int) : Int := bits BinOp.xor IntKind.u16 (s / 2) (bits BinOp.and IntKind.u16 33800 (IntKind.u16.wrap (-(bits BinOp.and IntKind.u16 s 1))))
def sumBits : Nat → Int → Int
  | 0, s => s
  | n + 1, s => sumBit (sumBits n s)
def sumByte (s c : Int) : Int := sumBits 8 (bits BinOp.xor IntKind.u16 s c)
def crcSum (l : List Int) : Int := l.foldl sumByte 0

set_option maxRecDepth 100000 in
set_option maxHeartbeats 4000000 in
theorem sum_any (w : World) (A : Option Addr) (len c : Nat) (L : List Int) (h : Rs V8 w w.heap.size A len L) (hb : ∀ x ∈ L, 0 ≤ x ∧ x < 256) (hL : len ≤ 100000) :
    Calls Tryz.prog 155 #[.slice A len c] w fun e w' => e = .returned (.int .u16 (crcSum L)) ∧ w' = w := by
  have HB := Lib.hid hb
  have HR := Lib.hid h
  have hl : (len : Int) ≤ 100000 := by omega
  clear h hb
  go_enter Tryz.func155, Tryz.ntmps155
  go_wp2_with fail
  go_loop [3, 8] (fun u3 i => ∃ (k : Nat), k ≤ len ∧ i = .int .i64 k ∧ u3 = .int .u16 (crcSum (L.take k))) (fun _ i => len - (intOf i).toNat)
  case atStart => exact ⟨0, by omega, rfl, rfl⟩
  case round =>
    obtain ⟨k, hk, rfl, rfl⟩ := hrel
    by_cases hlt : k < len
    · obtain ⟨x, z, rfl, _, hz, hc⟩ := HR.out.at hlt
      obtain ⟨z0, z1⟩ := HB.out z (List.mem_of_getElem? hz)
      unfold V8 at hc
      have hnx : crcSum (L.take (k + 1)) = sumByte (crcSum (L.take k)) z := by
        unfold crcSum; rw [List.take_add_one, hz, List.foldl_append]; rfl
      obtain ⟨s, hs⟩ : ∃ s, s = crcSum (L.take k) := ⟨_, rfl⟩
      rw [← hs] at hnx ⊢
      have HN := Lib.hid hnx
      clear hnx hs hz
      go_wp2_with fail
      obtain ⟨y, hy⟩ : ∃ y, y = bits BinOp.xor IntKind.u16 s z := ⟨_, rfl⟩
      rw [← hy]
      have HY := Lib.hid hy
      clear hy
      go_loop [3, 16] (fun u3 i => ∃ (j : Nat), j ≤ 8 ∧ i = .int .i64 j ∧ u3 = .int .u16 (sumBits j y)) (fun _ i => 8 - (intOf i).toNat)
      case atStart => exact ⟨0, by omega, rfl, rfl⟩
      case round =>
        obtain ⟨j, hj, rfl, rfl⟩ := hrel
        by_cases h8 : j < 8
        · have hnj : sumBits (j + 1) y = sumBit (sumBits j y) := rfl
          obtain ⟨q, hq⟩ : ∃ q, q = sumBits j y := ⟨_, rfl⟩
          rw [← hq] at hnj ⊢
          have HNJ := Lib.hid hnj
          clear hnj hq
          go_wp2_with fail
          go_round
          case measure => simp [intOf]; omega
          case rel => exact ⟨j + 1, by omega, by go_num, by rw [HNJ.out]; rfl⟩
        · obtain rfl : j = 8 := by omega
          go_wp2_with fail
          go_round
          case measure => simp [intOf]; omega
          case rel => exact ⟨k + 1, by omega, by go_num, by rw [HN.out, HY.out]; rfl⟩
    · obtain rfl : k = len := by omega
      go_wp2_with fail
      go_ret
      refine ⟨?_, rfl⟩
      rw [List.take_of_length_le (by have := HR.out.1; omega)]
      rfl
theorem nil_eq {P : Program} {t e : TypeId} (h : P.underlying t = some (.slice e)) (w : World) (n c : Nat) : (binOp .eql t (.slice none n c) (.slice none 0 0)).run P w = .ok (.bool true) w :=
  Lib.run_eql_slice_nil w t e none n c 0 0 h
theorem some_eq {P : Program} {t e : TypeId} (h : P.underlying t = some (.slice e)) (w : World) (x : Addr) (n c : Nat) : (binOp .eql t (.slice (some x) n c) (.slice none 0 0)).run P w = .ok (.bool false) w :=
  Lib.run_eql_slice_nil w t e (some x) n c 0 0 h
set_option maxRecDepth 100000 in
set_option maxHeartbeats 4000000 in
theorem clone8_any (w : World) (A : Option Addr) (len c : Nat) (L : List Int) (h : Rs V8 w w.heap.size A len L) (hA : A = none → c = 0) (hL : len ≤ 100000) :
    Calls Tryz.prog 41 #[.slice A len c] w (PNew V8 5 w L) := by
  have HR := Lib.hid h
  have HA := Lib.hid hA
  have hl := h.1
  cases A with
  | none =>
    have hm : L = [] := by
      rcases Nat.eq_zero_or_pos len with h0 | h0
      · exact List.eq_nil_of_length_eq_zero (by omega)
      · obtain ⟨x, z, e, _⟩ := h.at h0; cases e
    subst hm
    have hn := nil_eq (P := Tryz.prog) Tryz.underlying33
    clear h hA hl
    go_enter Tryz.func41, Tryz.ntmps41
    go_wp2_with fail
    go_ret
    exact ⟨_, rfl, World.ownsRow_nil _ _ _ _, Chg.refl _ _⟩
  | some x =>
    have hn := some_eq (P := Tryz.prog) Tryz.underlying33
    clear h hA
    go_enter Tryz.func41, Tryz.ntmps41
    go_wp2_with (at_builtin; go_loud (refine appS el8 rfl (.tmp 5) (.tmp 6) rfl w.heap.size (.slice (some ⟨w.heap.size, 0, none⟩) 0 0) 0 [] rfl (World.ownsRow_made _ #[] 0 (Nat.le_refl _) (by decide) rfl) w.heap.size (some x) len c L rfl HA.out (HR.out.keep (Chg.alloc (fun _ => False) w _) (fun _ _ e => e)) (fun _ => rfl) (by omega) (by omega) (by simp) ?grow))
    case grow =>
      intro v' w' hown hgr hat
      have ga := Chg.alloc (fun _ => False) w (.cells #[] 5)
      have g := chg_grown (S := fun i => w.heap.size ≤ i) hgr (fun j e => by cases e; exact Nat.le_refl _)
      have HO := Lib.hid (And.intro hown (ga.none.trans g).fresh)
      clear hown hgr hat g ga
      go_wp2_with fail
      go_ret
      refine ⟨_, rfl, ?_, HO.out.2⟩
      have := HO.out.1
      rw [hl]
      simpa using this
theorem u16_wrap (x : Int) : IntKind.u16.wrap x = x % 65536 := by simp only [IntKind.wrap, IntKind.bits, IntKind.signed]; simp
theorem bits16 (op : BinOp) (x y : Int) : 0 ≤ bits op .u16 x y ∧ bits op .u16 x y < 65536 := by
  unfold bits; simp only []; rw [u16_wrap]; omega
theorem sumBits_bd (n : Nat) (s : Int) : 0 ≤ sumBits (n + 1) s ∧ sumBits (n + 1) s < 65536 := by
  simp only [sumBits, sumBit]; exact bits16 _ _ _
theorem crcSum_bd (L : List Int) : 0 ≤ crcSum L ∧ crcSum L < 65536 := by
  unfold crcSum
  rcases List.eq_nil_or_concat L with rfl | ⟨M, x, rfl⟩
  · decide
  · rw [List.concat_eq_append, List.foldl_append]; exact sumBits_bd 7 _
def crcTail (L : List Int) : List Int := [crcSum L % 256, crcSum L / 256]
set_option maxRecDepth 100000 in
set_option maxHeartbeats 4000000 in
theorem crcAppend_any (w : World) (A : Option Addr) (len c : Nat) (L : List Int) (h : Rs V8 w w.heap.size A len L) (hA : A = none → c = 0) (hb : ∀ x ∈ L, 0 ≤ x ∧ x < 256) (hL : len ≤ 100000) :
    Calls Tryz.prog 102 #[.slice A len c] w (PNew V8 5 w (L ++ crcTail L)) := by
  have hs := sum_any w A len c L h hb hL
  have hc := clone8_any w A len c L h hA hL
  have hl := h.1
  obtain ⟨s0, s1⟩ := crcSum_bd L
  have htl : crcTail L = [crcSum L % 256, crcSum L / 256] := rfl
  rw [htl]
  clear htl h hA hb
  generalize crcSum L = s at *
  have e1 : IntKind.u8.wrap s = s % 256 := u8_wrap s
  have e2 : IntKind.u8.wrap (s / 256) = s / 256 := u8_in _ (by omega) (by omega)
  have HE := Lib.hid (And.intro e1 e2)
  clear e1 e2
  go_enter Tryz.func102, Tryz.ntmps102
  go_wp2_with fail
  refine hs.mono ?_
  rintro e w1 ⟨rfl, rfl⟩
  go_wp2_with fail
  refine hc.mono ?_
  rintro e w2 ⟨v, rfl, hown, G⟩
  have HO := Lib.hid hown
  have HG := Lib.hid G
  obtain ⟨e1, e2⟩ := HE.out
  clear hown G hs hc
  go_wp2_with (at_builtin; go_loud (refine appS (V := V8) el8 rfl (.tmp 7) (.tmp 13) rfl w1.heap.size v L.length (L.map V8) rfl (HO.out.alloc _) (w2.heap.size + 1) (some ⟨w2.heap.size, 0, none⟩) 2 2 [s % 256, s / 256] rfl (fun e => by cases e) ?c1 (fun _ => rfl) (by omega) (by omega) ?c2 ?grow))
  case c1 =>
    refine ⟨rfl, fun i hi => ⟨_, rfl, Nat.lt_succ_self _, ?_⟩⟩
    match i, hi with
    | 0, _ => simp [Addr.add, V8]
    | 1, _ => simp [Addr.add, V8]
    | i + 2, hi => exact absurd hi (by simp)
  case c2 => have := HG.out.size; simp; omega
  case grow =>
    intro v' w' hown hgr hat
    have ga := Chg.alloc (fun i => w1.heap.size ≤ i) w2 (.cells #[.int .u8 (s % 256), .int .u8 (s / 256)] 5)
    have g := chg_grown (S := fun i => w1.heap.size ≤ i) hgr (fun j e => (own_in HO.out e).1)
    have HX := Lib.hid (And.intro hown ((HG.out.none.trans (ga.trans g)).fresh))
    clear hown hgr hat g ga
    go_wp2_with fail
    go_ret
    refine ⟨_, rfl, ?_, HX.out.2⟩
    have := HX.out.1
    simpa [hl] using this
theorem list_ne {α : Type} {l m : List α} (i : Nat) (h : l[i]? ≠ m[i]?) : l ≠ m := fun e => h (by rw [e])
set_option maxRecDepth 100000 in
set_option maxHeartbeats 4000000 in
theorem equal8_any (w : World) (A B : Option Addr) (m n c d : Nat) (L M : List Int) (h : Rs V8 w w.heap.size A m L) (k : Rs V8 w w.heap.size B n M) (hm : m ≤ 200000) (hn : n ≤ 200000) :
    Calls Tryz.prog 161 #[.slice A m c, .slice B n d] w fun e w' => e = .returned (.bool (decide (L = M))) ∧ Chg (fun _ => False) w w' := by
  have HR := Lib.hid h
  have HK := Lib.hid k
  have hlL := h.1
  have hlM := k.1
  have hm1 : (m : Int) ≤ 200000 := by omega
  have hn1 : (n : Int) ≤ 200000 := by omega
  clear h k
  by_cases hmn : m = n
  · subst hmn
    have HL := Lib.hid hlL
    have HM := Lib.hid hlM
    clear hlL hlM
    go_enter Tryz.func161, Tryz.ntmps161
    go_wp2_with fail
    go_loopw [13] (fun i wr => ∃ (k : Nat), k ≤ m ∧ i = .int .i64 k ∧ (∀ j, j < k → L[j]? = M[j]?) ∧ Chg (fun _ => False) w wr) (fun i _ => m - (intOf i).toNat)
    case atStart => exact ⟨0, by omega, rfl, fun j hj => absurd hj (by omega), Chg.refl _ _⟩
    case round =>
      obtain ⟨k, hk, rfl, he, hG⟩ := hrel
      have HE := Lib.hid he
      have HG := Lib.hid hG
      clear he hG
      by_cases hlt : k < m
      · obtain ⟨x, z, rfl, _, hz, hc⟩ := ((HR.out.keep HG.out (fun _ _ e => e)).keep (Chg.drew (fun _ => False) wr) (fun _ _ e => e)).at hlt
        obtain ⟨y, u, rfl, _, hu, hd⟩ := ((HK.out.keep HG.out (fun _ _ e => e)).keep (Chg.drew (fun _ => False) wr) (fun _ _ e => e)).at hlt
        unfold V8 at hc hd
        have i1 : (k : Int) < (m : Int) := by omega
        have HZ := Lib.hid (And.intro hz hu)
        clear hz hu
        by_cases hzu : z = u
        · have hb : (z != u) = false := by simpa using hzu
          have he1 : ∀ j, j < k + 1 → L[j]? = M[j]? := fun j hj => by
            by_cases e : j = k
            · subst e; rw [HZ.out.1, HZ.out.2, hzu]
            · exact HE.out j (by omega)
          have HE1 := Lib.hid (And.intro he1 (HG.out.trans (Chg.drew (fun _ => False) wr)))
          clear hzu he1 HE HG
          go_wp2_with fail
          with_reducible refine wp_region_still_lit (by kernel_rfl) (by kernel_rfl) ?_
          repeat (with_reducible refine wpStill_step (fun K hK => ?_); go_simp; with_reducible refine hK _ ?_; clear hK K)
          with_reducible refine wpStill_nil ?_
          change Exit.then _ _ _ _ wr.drew
          clear hc hd
          generalize wr.drew = w3 at *
          go_wp2_with fail
          go_roundw
          case measure => simp [intOf]; omega
          case rel => exact ⟨k + 1, by omega, by go_num, HE1.out.1, HE1.out.2⟩
        · have hb : (z != u) = true := by simpa using hzu
          have hne : L ≠ M := list_ne k (by rw [HZ.out.1, HZ.out.2]; simpa using hzu)
          have HE1 := Lib.hid (And.intro hne (HG.out.trans (Chg.drew (fun _ => False) wr)))
          clear hzu hne HE HG
          go_wp2_with fail
          with_reducible refine wp_region_still_lit (by kernel_rfl) (by kernel_rfl) ?_
          repeat (with_reducible refine wpStill_step (fun K hK => ?_); go_simp; with_reducible refine hK _ ?_; clear hK K)
          with_reducible refine wpStill_nil ?_
          change Exit.then _ _ _ _ wr.drew
          clear hc hd
          generalize wr.drew = w3 at *
          go_wp2_with fail
          go_ret
          refine ⟨?_, HE1.out.2⟩
          rw [decide_eq_false HE1.out.1]; rfl
      · obtain rfl : k = m := by omega
        go_wp2_with fail
        go_ret
        refine ⟨?_, HG.out⟩
        rw [decide_eq_true (List.ext_getElem? (fun j => by
          by_cases hj : j < k
          · exact HE.out j hj
          · rw [List.getElem?_eq_none (by rw [HL.out]; omega), List.getElem?_eq_none (by rw [HM.out]; omega)]))]
        rfl
  · have hb : ((m : Int) != (n : Int)) = true := by simp; omega
    have hb2 : (m != n) = true := by simpa using hmn
    have hne : L ≠ M := fun e => hmn (by rw [← hlL, ← hlM, e])
    have HNE := Lib.hid hne
    clear hne hlL hlM
    go_enter Tryz.func161, Tryz.ntmps161
    go_wp2_with fail
    go_ret
    refine ⟨?_, Chg.refl _ _⟩
    rw [decide_eq_false HNE.out]; rfl
/-- a value is a slice of bytes that reads as L; its cells lie below block B. -/
def BS (w : World) (B : Nat) (v : Value) (L : List Int) : Prop :=
  ∃ A c, v = .slice A L.length c ∧ Rs V8 w B A L.length L ∧ (A = none → c = 0) ∧ L.length ≤ c ∧ c ≤ maxLen ∧ ∀ x ∈ L, 0 ≤ x ∧ x < 256
section
variable {w w' : World} {B B' : Nat} {v : Value} {L : List Int}
theorem BS.keep {S : Nat → Prop} (h : BS w B v L) (g : Chg S w w') (hS : ∀ j, j < B → ¬ S j) : BS w' B v L := by
  obtain ⟨A, c, h1, h2, h3⟩ := h
  exact ⟨A, c, h1, h2.keep g hS, h3⟩
theorem BS.kept (h : BS w B v L) (g : Chg (fun _ => False) w w') : BS w' B v L := h.keep g (fun _ _ e => e)
theorem BS.more (h : BS w B v L) (hB : B ≤ B') : BS w B' v L := by
  obtain ⟨A, c, h1, h2, h3⟩ := h
  exact ⟨A, c, h1, h2.more hB, h3⟩
theorem BS.of_own {base : Nat} (h : w.ownsRow base 5 1 v L.length (L.map V8)) (hb : ∀ x ∈ L, 0 ≤ x ∧ x < 256) : BS w w.heap.size v L := by
  obtain ⟨A, c, rfl, h2, h3⟩ := Rs.of_own h
  refine ⟨A, c, rfl, h2, h3, ?_, ?_, hb⟩
  · rcases h.2 with ⟨e, h0⟩ | ⟨g, cap, cur, e, _, _, hc, hm, _⟩
    · rw [h0]; omega
    · cases e; exact hc
  · rcases h.2 with ⟨e, h0⟩ | ⟨g, cap, cur, e, _, _, hc, hm, _⟩
    · simp at e; rw [e.2.2]; exact Nat.zero_le _
    · cases e; exact hm
theorem BS.nil (w : World) (B : Nat) : BS w B (.slice none 0 0) [] := ⟨none, 0, rfl, Rs.nil _ _ _ _, fun _ => rfl, Nat.le_refl _, Nat.zero_le _, fun x hx => by cases hx⟩
end
def crcGood (L : List Int) : Bool := decide (2 ≤ L.length) && decide (L.take (L.length - 2) ++ crcTail (L.take (L.length - 2)) = L)
theorem Rs.take {α : Type} {V : α → Value} {w : World} {B len : Nat} {a : Option Addr} {zs : List α} (h : Rs V w B a len zs) (k : Nat) (hk : k ≤ len) : Rs V w B a k (zs.take k) := by
  have hl := h.1
  refine ⟨by simp; omega, fun i hi => ?_⟩
  obtain ⟨x, e, hb, hc⟩ := h.2 i (by simp at hi; omega)
  exact ⟨x, e, hb, by rw [hc]; simp⟩
set_option maxRecDepth 100000 in
set_option maxHeartbeats 4000000 in
theorem crcGood_any (w : World) (v : Value) (L : List Int) (h : BS w w.heap.size v L) (hL : L.length ≤ 100000) :
    Calls Tryz.prog 110 #[v] w fun e w' => e = .returned (.bool (crcGood L)) ∧ Chg (fun _ => False) w w' := by
  obtain ⟨A, c, rfl, hr, hA, hc, hm, hb⟩ := h
  by_cases h2 : 2 ≤ L.length
  · have happ := crcAppend_any w A (L.length - 2) c (L.take (L.length - 2)) (hr.take _ (by omega)) hA (fun x hx => hb x (List.mem_of_mem_take hx)) (by omega)
    obtain ⟨N, hN⟩ : ∃ N, N = L.length - 2 := ⟨_, rfl⟩
    rw [← hN] at happ
    have e1 : IntKind.i64.wrap ((L.length : Int) - 2) = (N : Int) := by rw [IntWalk.i64_in _ (by omega)]; omega
    have e2 : (L.length : Int) - 2 = (N : Int) := by omega
    have hg : crcGood L = decide (L.take N ++ crcTail (L.take N) = L) := by unfold crcGood; rw [decide_eq_true h2, ← hN]; rfl
    rw [hg]
    have hXl : (L.take N ++ crcTail (L.take N)).length ≤ 200000 := by have : (crcTail (L.take N)).length = 2 := rfl; simp; omega
    generalize L.take N ++ crcTail (L.take N) = X at *
    obtain ⟨xl, hxl⟩ : ∃ xl, xl = X.length := ⟨_, rfl⟩
    have i1 : (N : Int) ≤ c := by omega
    have i2 : N ≤ c := by omega
    have i3 : (2 : Int) ≤ L.length := by omega
    have HR := Lib.hid hr
    have HA := Lib.hid happ
    have HL := Lib.hid hL
    have HXL := Lib.hid (And.intro hXl hxl)
    unfold maxLen at hm
    clear hr happ hL hg hN hA hb hXl hxl
    go_enter Tryz.func110, Tryz.ntmps110
    go_wp2_with fail
    refine HA.out.mono ?_
    rintro e w1 ⟨v1, rfl, hown, G⟩
    obtain ⟨A1, c1, rfl, hr1, _⟩ := Rs.of_own hown
    have heq := equal8_any w1 A1 A X.length L.length c1 c X L hr1 ((HR.out.keep G (fun _ _ e => e)).more G.size) HXL.out.1 (by have := HL.out; omega)
    rw [← HXL.out.2] at heq ⊢
    have HQ := Lib.hid heq
    have HG := Lib.hid G
    clear hown hr1 heq G
    go_wp2_with fail
    (with_reducible refine HQ.out.mono ?_)
    rintro e w2 ⟨rfl, G2⟩
    have HG2 := Lib.hid (HG.out.trans G2)
    clear G2 HQ HG
    go_wp2_with fail
    go_ret
    exact ⟨rfl, HG2.out⟩
  · have hg : crcGood L = false := by unfold crcGood; rw [decide_eq_false h2]; rfl
    rw [hg]
    have i3 : (L.length : Int) < 2 := by omega
    clear hr hA hb hg
    go_enter Tryz.func110, Tryz.ntmps110
    go_wp2_with fail
    go_ret
    exact ⟨rfl, Chg.refl _ _⟩
end Go.Proofs.YtnpihllannobgaaGreatDoor
namespace Go.Proofs.YtnpihllannobgaaGreatDoor
set_option linter.unusedVariables false
set_option linter.unusedSimpArgs false
open Go.ChangeShapes Go.WideShapes Go.ChangeAt Go.RowKit

def VU (x : Int) : Value := .int .u64 x
theorem Tryz.info23 : (Tryz.prog.info? 23).map (fun i => (i.zero, i.size, i.bytes)) = some (some (.int .u64 0), 1, 8) := by kernel_rfl
theorem Tryz.info2 : (Tryz.prog.info? 2).map (fun i => (i.zero, i.size, i.bytes)) = some (some (.int .i64 0), 1, 8) := by kernel_rfl
theorem elU : ElOk 24 23 8 := by
  obtain ⟨i0, hi, hx⟩ := Option.map_eq_some_iff.1 Tryz.info23
  simp only [Prod.mk.injEq] at hx
  exact ⟨Tryz.underlying24, i0, _, hi, hx.1, hx.2.1, hx.2.2, rfl⟩
theorem elL : ElOk 58 2 8 := by
  obtain ⟨i0, hi, hx⟩ := Option.map_eq_some_iff.1 Tryz.info2
  simp only [Prod.mk.injEq] at hx
  exact ⟨Tryz.underlying58, i0, _, hi, hx.1, hx.2.1, hx.2.2, rfl⟩
set_option maxRecDepth 100000 in
set_option maxHeartbeats 4000000 in
theorem cloneI_any (w : World) (A : Option Addr) (len c : Nat) (L : List Int) (h : Rs VI w w.heap.size A len L) (hA : A = none → c = 0) (hL : len ≤ 100000) :
    Calls Tryz.prog 29 #[.slice A len c] w (PNew VI 3 w L) := by
  have HR := Lib.hid h
  have HA := Lib.hid hA
  have hl := h.1
  cases A with
  | none =>
    have hm : L = [] := by
      rcases Nat.eq_zero_or_pos len with h0 | h0
      · exact List.eq_nil_of_length_eq_zero (by omega)
      · obtain ⟨x, z, e, _⟩ := h.at h0; cases e
    subst hm
    have hn := nil_eq (P := Tryz.prog) Tryz.underlying22
    clear h hA hl
    go_enter Tryz.func29, Tryz.ntmps29
    go_wp2_with fail
    go_ret
    exact ⟨_, rfl, World.ownsRow_nil _ _ _ _, Chg.refl _ _⟩
  | some x =>
    have hn := some_eq (P := Tryz.prog) Tryz.underlying22
    clear h hA
    go_enter Tryz.func29, Tryz.ntmps29
    go_wp2_with (at_builtin; go_loud (refine appS elI rfl (.tmp 5) (.tmp 6) rfl w.heap.size (.slice (some ⟨w.heap.size, 0, none⟩) 0 0) 0 [] rfl (World.ownsRow_made _ #[] 0 (Nat.le_refl _) (by decide) rfl) w.heap.size (some x) len c L rfl HA.out (HR.out.keep (Chg.alloc (fun _ => False) w _) (fun _ _ e => e)) (fun _ => rfl) (by omega) (by omega) (by simp) ?grow))
    case grow =>
      intro v' w' hown hgr hat
      have ga := Chg.alloc (fun _ => False) w (.cells #[] 3)
      have g := chg_grown (S := fun i => w.heap.size ≤ i) hgr (fun j e => by cases e; exact Nat.le_refl _)
      have HO := Lib.hid (And.intro hown (ga.none.trans g).fresh)
      clear hown hgr hat g ga
      go_wp2_with fail
      go_ret
      refine ⟨_, rfl, ?_, HO.out.2⟩
      have := HO.out.1
      rw [hl]
      simpa using this
set_option maxRecDepth 100000 in
set_option maxHeartbeats 4000000 in
theorem cloneU_any (w : World) (A : Option Addr) (len c : Nat) (L : List Int) (h : Rs VU w w.heap.size A len L) (hA : A = none → c = 0) (hL : len ≤ 100000) :
    Calls Tryz.prog 28 #[.slice A len c] w (PNew VU 23 w L) := by
  have HR := Lib.hid h
  have HA := Lib.hid hA
  have hl := h.1
  cases A with
  | none =>
    have hm : L = [] := by
      rcases Nat.eq_zero_or_pos len with h0 | h0
      · exact List.eq_nil_of_length_eq_zero (by omega)
      · obtain ⟨x, z, e, _⟩ := h.at h0; cases e
    subst hm
    have hn := nil_eq (P := Tryz.prog) Tryz.underlying24
    clear h hA hl
    go_enter Tryz.func28, Tryz.ntmps28
    go_wp2_with fail
    go_ret
    exact ⟨_, rfl, World.ownsRow_nil _ _ _ _, Chg.refl _ _⟩
  | some x =>
    have hn := some_eq (P := Tryz.prog) Tryz.underlying24
    clear h hA
    go_enter Tryz.func28, Tryz.ntmps28
    go_wp2_with (at_builtin; go_loud (refine appS elU rfl (.tmp 5) (.tmp 6) rfl w.heap.size (.slice (some ⟨w.heap.size, 0, none⟩) 0 0) 0 [] rfl (World.ownsRow_made _ #[] 0 (Nat.le_refl _) (by decide) rfl) w.heap.size (some x) len c L rfl HA.out (HR.out.keep (Chg.alloc (fun _ => False) w _) (fun _ _ e => e)) (fun _ => rfl) (by omega) (by omega) (by simp) ?grow))
    case grow =>
      intro v' w' hown hgr hat
      have ga := Chg.alloc (fun _ => False) w (.cells #[] 23)
      have g := chg_grown (S := fun i => w.heap.size ≤ i) hgr (fun j e => by cases e; exact Nat.le_refl _)
      have HO := Lib.hid (And.intro hown (ga.none.trans g).fresh)
      clear hown hgr hat g ga
      go_wp2_with fail
      go_ret
      refine ⟨_, rfl, ?_, HO.out.2⟩
      have := HO.out.1
      rw [hl]
      simpa using this
set_option maxRecDepth 100000 in
set_option maxHeartbeats 4000000 in
theorem cloneL_any (w : World) (A : Option Addr) (len c : Nat) (L : List Int) (h : Rs VI w w.heap.size A len L) (hA : A = none → c = 0) (hL : len ≤ 100000) :
    Calls Tryz.prog 55 #[.slice A len c] w (PNew VI 2 w L) := by
  have HR := Lib.hid h
  have HA := Lib.hid hA
  have hl := h.1
  cases A with
  | none =>
    have hm : L = [] := by
      rcases Nat.eq_zero_or_pos len with h0 | h0
      · exact List.eq_nil_of_length_eq_zero (by omega)
      · obtain ⟨x, z, e, _⟩ := h.at h0; cases e
    subst hm
    have hn := nil_eq (P := Tryz.prog) Tryz.underlying58
    clear h hA hl
    go_enter Tryz.func55, Tryz.ntmps55
    go_wp2_with fail
    go_ret
    exact ⟨_, rfl, World.ownsRow_nil _ _ _ _, Chg.refl _ _⟩
  | some x =>
    have hn := some_eq (P := Tryz.prog) Tryz.underlying58
    clear h hA
    go_enter Tryz.func55, Tryz.ntmps55
    go_wp2_with (at_builtin; go_loud (refine appS elL rfl (.tmp 5) (.tmp 6) rfl w.heap.size (.slice (some ⟨w.heap.size, 0, none⟩) 0 0) 0 [] rfl (World.ownsRow_made _ #[] 0 (Nat.le_refl _) (by decide) rfl) w.heap.size (some x) len c L rfl HA.out (HR.out.keep (Chg.alloc (fun _ => False) w _) (fun _ _ e => e)) (fun _ => rfl) (by omega) (by omega) (by simp) ?grow))
    case grow =>
      intro v' w' hown hgr hat
      have ga := Chg.alloc (fun _ => False) w (.cells #[] 2)
      have g := chg_grown (S := fun i => w.heap.size ≤ i) hgr (fun j e => by cases e; exact Nat.le_refl _)
      have HO := Lib.hid (And.intro hown (ga.none.trans g).fresh)
      clear hown hgr hat g ga
      go_wp2_with fail
      go_ret
      refine ⟨_, rfl, ?_, HO.out.2⟩
      have := HO.out.1
      rw [hl]
      simpa using this
end Go.Proofs.YtnpihllannobgaaGreatDoor
namespace Go.Proofs.YtnpihllannobgaaGreatDoor
set_option linter.unusedVariables false
set_option linter.unusedSimpArgs false
open Go.ChangeShapes Go.WideShapes Go.ChangeAt Go.RowKit

/-- where x is first; -1: nowhere. -/
def indexI (L : List Int) (x : Int) : Int := match L.findIdx? (· == x) with | some i => i | none => -1
theorem indexI_at (L : List Int) (x : Int) (k : Nat) (hk : L[k]? = some x) (h : ∀ j, j < k → L[j]? ≠ some x) : indexI L x = k := by
  have hlt := (List.getElem?_eq_some_iff.1 hk).1
  have : L.findIdx? (· == x) = some k := by
    rw [List.findIdx?_eq_some_iff_getElem]
    refine ⟨hlt, by rw [List.getElem?_eq_getElem hlt] at hk; simpa using hk, fun j hj => ?_⟩
    have h2 := h j hj
    rw [List.getElem?_eq_getElem (by omega)] at h2
    simpa using h2
  unfold indexI; rw [this]
theorem indexI_no (L : List Int) (x : Int) (h : ∀ j, j < L.length → L[j]? ≠ some x) : indexI L x = -1 := by
  have : L.findIdx? (· == x) = none := by
    rw [List.findIdx?_eq_none_iff]
    intro y hy
    obtain ⟨j, hj, rfl⟩ := List.getElem_of_mem hy
    have h2 := h j hj
    rw [List.getElem?_eq_getElem hj] at h2
    simpa using h2
  unfold indexI; rw [this]
set_option maxRecDepth 100000 in
set_option maxHeartbeats 4000000 in
theorem indexI_any (w : World) (A : Option Addr) (len c : Nat) (L : List Int) (x : Int) (h : Rs VI w w.heap.size A len L) (hL : len ≤ 100000) :
    Calls Tryz.prog 142 #[.slice A len c, .int .i64 x] w fun e w' => e = .returned (.int .i64 (indexI L x)) ∧ w' = w := by
  have HR := Lib.hid h
  have hl : (len : Int) ≤ 100000 := by omega
  clear h
  go_enter Tryz.func142, Tryz.ntmps142
  go_wp2_with fail
  go_loop [8] (fun i => ∃ (k : Nat), k ≤ len ∧ i = .int .i64 k ∧ ∀ j, j < k → L[j]? ≠ some x) (fun i => len - (intOf i).toNat)
  case atStart => exact ⟨0, by omega, rfl, fun j hj => absurd hj (by omega)⟩
  case round =>
    obtain ⟨k, hk, rfl, hno⟩ := hrel
    have HN := Lib.hid hno
    clear hno
    by_cases hlt : k < len
    · obtain ⟨y, z, rfl, _, hz, hc⟩ := HR.out.at hlt
      unfold VI at hc
      by_cases hx : x = z
      · have hi := indexI_at L x k (by rw [hz, hx]) HN.out
        have HI := Lib.hid hi
        have hb : (x == z) = true := by simpa using hx
        clear hx hz hi
        go_wp2_with fail
        go_ret
        exact ⟨ret_int HI.out.symm, rfl⟩
      · have hb : (x == z) = false := by simpa using hx
        have HN1 := Lib.hid (show ∀ j, j < k + 1 → L[j]? ≠ some x from fun j hj => by
          by_cases e : j = k
          · subst e; rw [hz]; intro h2; simp at h2; exact hx h2.symm
          · exact HN.out j (by omega))
        clear hx hz
        go_wp2_with fail
        go_round
        case measure => simp [intOf]; omega
        case rel => exact ⟨k + 1, by omega, by go_num, HN1.out⟩
    · obtain rfl : k = len := by omega
      have hi := indexI_no L x (fun j hj => HN.out j (by rw [← HR.out.1]; exact hj))
      have HI := Lib.hid hi
      clear hi
      go_wp2_with fail
      go_ret
      exact ⟨ret_int HI.out.symm, rfl⟩
theorem indexI_pos (L : List Int) (x : Int) : decide (0 ≤ indexI L x) = L.contains x := by
  unfold indexI
  cases h : L.findIdx? (· == x) with
  | none =>
    rw [List.findIdx?_eq_none_iff] at h
    have : L.contains x = false := by
      rw [Bool.eq_false_iff]; intro hc
      have := h x (by simpa using hc)
      simp at this
    rw [this]; rfl
  | some i =>
    rw [List.findIdx?_eq_some_iff_getElem] at h
    obtain ⟨hi, he, _⟩ := h
    have : L.contains x = true := by
      simp at he; simp; rw [← he]; exact List.getElem_mem _
    rw [this]; simp
theorem containsI_any (w : World) (A : Option Addr) (len c : Nat) (L : List Int) (x : Int) (h : Rs VI w w.heap.size A len L) (hL : len ≤ 100000) :
    Calls Tryz.prog 92 #[.slice A len c, .int .i64 x] w fun e w' => e = .returned (.bool (L.contains x)) ∧ w' = w := by
  have hi := indexI_any w A len c L x h hL
  have hp := indexI_pos L x
  rw [← hp]
  clear h hp
  generalize indexI L x = q at *
  go_enter Tryz.func92, Tryz.ntmps92
  go_wp2_with fail
  refine hi.mono ?_
  rintro e w1 ⟨rfl, rfl⟩
  go_wp2_with fail
  go_ret
  exact ⟨rfl, rfl⟩
end Go.Proofs.YtnpihllannobgaaGreatDoor
namespace Go.Proofs.YtnpihllannobgaaGreatDoor
set_option linter.unusedVariables false
set_option linter.unusedSimpArgs false
open Go.ChangeShapes Go.WideShapes Go.ChangeAt Go.RowKit

def cutf (n m : Int) : Int := max (-m) (min n m)
def downf (n : Int) : Int := n / 1000000

/-- a clock lies in block b -/
def Ck (w : World) (b : Nat) (base sum slots : Int) : Prop := w.heap[b]? = some (.cells #[.int .i64 base, .int .i64 sum, .int .i64 slots] 163 (0, 0))
def PSet (b : Nat) (w : World) (base sum slots : Int) (e : Ending) (w' : World) : Prop := e = .returned (.tuple #[]) ∧ Ck w' b base sum slots ∧ Chg (· = b) w w'

theorem Ck.c0 {w : World} {b : Nat} {x y z : Int} (h : Ck w b x y z) : w.cell? ⟨b, 0, none⟩ = some (.int .i64 x) := by rw [cell_of_block h]; rfl
theorem Ck.c1 {w : World} {b : Nat} {x y z : Int} (h : Ck w b x y z) : w.cell? ⟨b, 1, none⟩ = some (.int .i64 y) := by rw [cell_of_block h]; rfl
theorem Ck.c2 {w : World} {b : Nat} {x y z : Int} (h : Ck w b x y z) : w.cell? ⟨b, 2, none⟩ = some (.int .i64 z) := by rw [cell_of_block h]; rfl
theorem Ck.f {w : World} {b : Nat} {x y z : Int} (h : Ck w b x y z) (o : Nat) : w.frozen? ⟨b, o, none⟩ = false := frozen_of_block h o
theorem Ck.keep {w w' : World} {b : Nat} {x y z : Int} {S : Nat → Prop} (h : Ck w b x y z) (g : Chg S w w') (hs : ¬ S b) : Ck w' b x y z := Chg.keep g h hs
theorem Ck.kept {w w' : World} {b : Nat} {x y z : Int} (h : Ck w b x y z) (g : Chg (fun _ => False) w w') : Ck w' b x y z := Chg.keep g h (fun f => f)
theorem Ck.set0 {w : World} {b : Nat} {x y z : Int} (h : Ck w b x y z) (t : Int) : Ck (w.setCell ⟨b, 0, none⟩ (.int .i64 t)) b t y z := by
  have := block_set h 0 (.int .i64 t); simpa [Ck] using this
theorem Ck.set1 {w : World} {b : Nat} {x y z : Int} (h : Ck w b x y z) (t : Int) : Ck (w.setCell ⟨b, 1, none⟩ (.int .i64 t)) b x t z := by
  have := block_set h 1 (.int .i64 t); simpa [Ck] using this
theorem Ck.set2 {w : World} {b : Nat} {x y z : Int} (h : Ck w b x y z) (t : Int) : Ck (w.setCell ⟨b, 2, none⟩ (.int .i64 t)) b x y t := by
  have := block_set h 2 (.int .i64 t); simpa [Ck] using this

theorem ckcut_any (n m : Int) (w : World) (h0 : 0 ≤ m) (h1 : m ≤ 1000000000000) :
   Calls Tryz.prog 124 #[.int .i64 n, .int .i64 m] w fun e w' => e = .returned (.int .i64 (cutf n m)) ∧ w' = w := by
  go_enter Tryz.func124, Tryz.ntmps124
  go_wp2
  all_goals
    go_ret
    refine ⟨ret_int ?_, rfl⟩
    unfold cutf
    split at * <;> omega

theorem tdm (n m : Int) (h : 0 < m) : n.tdiv m * m + n.tmod m = n ∧ (0 ≤ n → 0 ≤ n.tmod m) ∧ (n ≤ 0 → n.tmod m ≤ 0) ∧ n.tmod m < m ∧ -m < n.tmod m := by
  refine ⟨by rw [Int.mul_comm]; exact Int.mul_tdiv_add_tmod n m, fun h0 => Int.tmod_nonneg _ h0, fun h0 => ?_, Int.tmod_lt_of_pos _ h, ?_⟩
  · have := Int.tmod_nonneg (a := -n) m (by omega)
    rw [Int.neg_tmod] at this; omega
  · have := Int.tmod_lt_of_pos (-n) h
    rw [Int.neg_tmod] at this; omega

theorem down1 {n : Int} (h0 : -1000000000000000 ≤ n) (h1 : n ≤ 1000000000000000) (h : n.tmod 1000000 < 0) : wrap64 (n.tdiv 1000000 - 1) = downf n := by
  obtain ⟨a, b, c, d, e⟩ := tdm n 1000000 (by omega)
  generalize n.tdiv 1000000 = q at *
  generalize n.tmod 1000000 = r at *
  unfold downf wrap64; omega
theorem down2 {n : Int} (h : 0 ≤ n.tmod 1000000) : n.tdiv 1000000 = downf n := by
  obtain ⟨a, b, c, d, e⟩ := tdm n 1000000 (by omega)
  generalize n.tdiv 1000000 = q at *
  generalize n.tmod 1000000 = r at *
  unfold downf; omega

theorem ckdown_any (n : Int) (w : World) (h0 : -1000000000000000 ≤ n) (h1 : n ≤ 1000000000000000) :
   Calls Tryz.prog 104 #[.int .i64 n, .int .i64 1000000] w fun e w' => e = .returned (.int .i64 (downf n)) ∧ w' = w := by
  by_cases h : n.tmod 1000000 < 0
  · go_enter Tryz.func104, Tryz.ntmps104
    go_wp2
    go_ret
    exact ⟨ret_int (down1 h0 h1 h), rfl⟩
  · go_enter Tryz.func104, Tryz.ntmps104
    go_wp2
    go_ret
    exact ⟨ret_int (down2 (by omega)), rfl⟩

theorem cutf_bd (n m : Int) (h : 0 ≤ m) : -m ≤ cutf n m ∧ cutf n m ≤ m := by unfold cutf; omega
theorem downf_bd (n : Int) (h0 : -1000000000000000 ≤ n) (h1 : n ≤ 1000000000000000) : -1000000000 ≤ downf n ∧ downf n ≤ 1000000000 := by unfold downf; omega

theorem pset {w w' : World} {b : Nat} {x y z : Int} (h : Ck w' b x y z) (g : Chg (· = b) w w') : PSet b w x y z (.returned (.tuple #[])) w' := ⟨rfl, h, g⟩

theorem ckoff_quiet (w : World) (b : Nat) (x y z : Int) (h : Ck w b x y z) (hx : -1000000000000000 ≤ x ∧ x ≤ 1000000000000000) (hy : -1000000000000000 ≤ y ∧ y ≤ 1000000000000000) :
   Calls Tryz.prog 61 #[.pointer (some ⟨b, 0, none⟩)] w fun e w' => e = .returned (.int .i64 (x + downf y)) ∧ ∃ m, w' = w.drewN m := by
  obtain ⟨hx0, hx1⟩ := hx
  obtain ⟨hy0, hy1⟩ := hy
  obtain ⟨hd0, hd1⟩ := downf_bd y hy0 hy1
  have c0 := h.c0
  have c1 := h.c1
  clear h
  go_enter Tryz.func61, Tryz.ntmps61
  go_wp2
  go_quiet ((go_at_call 104; exact Calls.quiet_of_same (ckdown_any _ _ hy0 hy1)))
  go_wp2
  go_ret
  exact ⟨rfl, _, rfl⟩

theorem ckslots_any (w : World) (b : Nat) (x y z : Int) (h : Ck w b x y z) :
   Calls Tryz.prog 58 #[.pointer (some ⟨b, 0, none⟩)] w fun e w' => e = .returned (.int .i64 z) ∧ w' = w := by
  have c2 := h.c2
  clear h
  go_enter Tryz.func58, Tryz.ntmps58
  go_wp2
  go_ret
  exact ⟨rfl, rfl⟩

theorem ckput_any (w : World) (b : Nat) (x y z n : Int) (h : Ck w b x y z) :
   Calls Tryz.prog 81 #[.pointer (some ⟨b, 0, none⟩), .int .i64 n] w (PSet b w (cutf n 1000000000000) 0 z) := by
  have c0 := h.c0
  have c1 := h.c1
  have f0 := h.f 0
  have f1 := h.f 1
  have H := Lib.hid h
  clear h
  go_enter Tryz.func81, Tryz.ntmps81
  go_wp2_with ((go_at_call 124; refine (ckcut_any _ _ _ (by omega) (by omega)).mono ?_; rintro e w' ⟨rfl, rfl⟩))
  go_end0
  exact pset ((H.out.set0 _).set1 _) ((chg1 _ _ _ _).trans (chg1 _ _ _ _))

set_option maxRecDepth 100000 in
theorem ckslot_any (w : World) (b : Nat) (x y z p : Int) (h : Ck w b x y z) (hy : -1000000000000 ≤ y ∧ y ≤ 1000000000000) (hz : 0 ≤ z ∧ z ≤ 1000000) :
   Calls Tryz.prog 93 #[.pointer (some ⟨b, 0, none⟩), .int .i64 p] w (PSet b w x (y + cutf p 100 * 10000) (z + 1)) := by
  obtain ⟨hy0, hy1⟩ := hy
  obtain ⟨hz0, hz1⟩ := hz
  obtain ⟨hc0, hc1⟩ := cutf_bd p 100 (by omega)
  have c1 := h.c1
  have c2 := h.c2
  have f1 := h.f 1
  have f2 := h.f 2
  have H := Lib.hid h
  clear h
  go_enter Tryz.func93, Tryz.ntmps93
  go_wp2_with fail
  have K := (H.out.set2 (z+1))
  have G := chg1 w b 2 (.int .i64 (z+1))
  clear c1 c2 f1 f2
  have c1 := K.c1
  have f1 := K.f 1
  have HK := Lib.hid K
  clear K
  generalize w.setCell ⟨b, 2, none⟩ (.int .i64 (z+1)) = w1 at *
  have e1 : IntKind.i64.wrap (cutf p 100 * 10000) = cutf p 100 * 10000 := IntWalk.i64_in _ (by omega)
  have e2 : IntKind.i64.wrap (y + cutf p 100 * 10000) = y + cutf p 100 * 10000 := IntWalk.i64_in _ (by omega)
  go_still_tail 8, (by kernel_rfl)
  still_call (ckcut_any _ _ _ (by omega) (by omega))
  repeat still_step
  refine wpStill_nil ?_
  change wpList _ _ _ _ _ w1.drew
  clear e1 e2
  have K2 : Ck w1.drew b x y (z+1) := HK.out
  have HK2 := Lib.hid K2
  have f2 := K2.f 1
  have c2 := K2.c1
  have G2 := G.trans (Chg.drew _ w1)
  clear K2
  generalize w1.drew = w2 at *
  go_wp2
  go_end0
  exact pset (HK2.out.set1 _) (G2.trans (chg1 _ _ _ _))

set_option maxRecDepth 100000 in
theorem ckmove_any (w : World) (b : Nat) (x y z n : Int) (h : Ck w b x y z) (hx : -1000000000000000 ≤ x ∧ x ≤ 1000000000000000) :
   Calls Tryz.prog 205 #[.pointer (some ⟨b, 0, none⟩), .int .i64 n] w (PSet b w (cutf (x + cutf n 1000000) 1000000000000) y z) := by
  obtain ⟨hx0, hx1⟩ := hx
  obtain ⟨hc0, hc1⟩ := cutf_bd n 1000000 (by omega)
  have c0 := h.c0
  have f0 := h.f 0
  have H := Lib.hid h
  clear h
  go_enter Tryz.func205, Tryz.ntmps205
  go_wp2_with fail
  have e1 : IntKind.i64.wrap (x + cutf n 1000000) = x + cutf n 1000000 := IntWalk.i64_in _ (by omega)
  go_still_tail 9, (by kernel_rfl)
  still_call (ckcut_any _ _ _ (by omega) (by omega))
  repeat still_step
  still_call (ckcut_any _ _ _ (by omega) (by omega))
  repeat still_step
  refine wpStill_nil ?_
  change wpList _ _ _ _ _ w.drew
  clear e1
  have K2 : Ck w.drew b x y z := H.out
  have HK2 := Lib.hid K2
  have c2 := K2.c0
  have f2 := K2.f 0
  have G2 := Chg.drew (· = b) w
  clear K2
  generalize w.drew = w2 at *
  go_wp2
  go_end0
  exact pset (HK2.out.set0 _) (G2.trans (chg1 _ _ _ _))

def PNewAt (w : World) (P : Nat → World → Prop) (e : Ending) (w' : World) : Prop := ∃ b, e = .returned (.pointer (some ⟨b, 0, none⟩)) ∧ P b w' ∧ w.heap.size ≤ b ∧ Chg (fun _ => False) w w'
theorem cknew_any (w : World) : Calls Tryz.prog 50 #[] w (PNewAt w (fun b w' => Ck w' b 0 0 0)) := by
  go_enter Tryz.func50, Tryz.ntmps50
  go_wp2_with fail
  go_ret
  exact ⟨_, rfl, block_alloc _ _, Nat.le_refl _, Chg.alloc _ _ _⟩
end Go.Proofs.YtnpihllannobgaaGreatDoor
namespace Go.Proofs.YtnpihllannobgaaGreatDoor
set_option linter.unusedVariables false
set_option linter.unusedSimpArgs false
open Go.ChangeShapes Go.WideShapes Go.ChangeAt Go.RowKit

/-- a keeper lies in block b -/
def Kp (w : World) (b : Nat) (ev s : Int) : Prop := w.heap[b]? = some (.cells #[.int .i64 ev, .int .i64 s] 206 (0, 0))

def PKeep (b : Nat) (w : World) (ev s : Int) (e : Ending) (w' : World) : Prop := e = .returned (.tuple #[]) ∧ Kp w' b ev s ∧ Chg (· = b) w w'
def PBool (w : World) (v : Bool) (e : Ending) (w' : World) : Prop := e = .returned (.bool v) ∧ Chg (fun _ => False) w w'
def PInt (w : World) (v : Int) (e : Ending) (w' : World) : Prop := e = .returned (.int .i64 v) ∧ w' = w

theorem Kp.set {w : World} {b : Nat} {ev s : Int} (h : Kp w b ev s) (t : Int) : Kp (w.setCell ⟨b, 1, none⟩ (.int .i64 t)) b ev t := by
  have := block_set h 1 (.int .i64 t)
  simpa [Kp] using this

theorem Kp.c0 {w : World} {b : Nat} {ev s : Int} (h : Kp w b ev s) : w.cell? ⟨b, 0, none⟩ = some (.int .i64 ev) := by
  rw [cell_of_block h]; rfl
theorem Kp.c1 {w : World} {b : Nat} {ev s : Int} (h : Kp w b ev s) : w.cell? ⟨b, 1, none⟩ = some (.int .i64 s) := by
  rw [cell_of_block h]; rfl
theorem Kp.f1 {w : World} {b : Nat} {ev s : Int} (h : Kp w b ev s) : w.frozen? ⟨b, 1, none⟩ = false := frozen_of_block h 1

theorem kppset {w : World} {b : Nat} {ev s : Int} (h : Kp w b ev s) {t u : Int} (e : t = u) :
    PKeep b w ev u (.returned (.tuple #[])) (w.setCell ⟨b, 1, none⟩ (.int .i64 t)) :=
  ⟨rfl, e ▸ h.set t, Chg.set _ _ _ rfl⟩

theorem Kp.keep {w w' : World} {b : Nat} {ev s : Int} {S : Nat → Prop} (h : Kp w b ev s) (g : Chg S w w') (hs : ¬ S b) : Kp w' b ev s := Chg.keep g h hs
theorem Kp.kept {w w' : World} {b : Nat} {ev s : Int} (h : Kp w b ev s) (g : Chg (fun _ => False) w w') : Kp w' b ev s := Chg.keep g h (fun f => f)

theorem kpslot_any (w : World) (b : Nat) (ev s t : Int) (h : Kp w b ev s) (h0 : 0 ≤ s) (h1 : s ≤ 1000000) (ht : t = min (s+1) 1000000) :
   Calls Tryz.prog 72 #[.pointer (some ⟨b, 0, none⟩)] w (PKeep b w ev t) := by
  have c1 := h.c1
  have f1 := h.f1
  have H := Lib.hid h
  have HT := Lib.hid ht
  clear h ht
  go_enter Tryz.func72, Tryz.ntmps72
  go_wp2
  all_goals
    go_end0
    exact kppset H.out (by have := HT.out; omega)

theorem kpheard_any (w : World) (b : Nat) (ev s : Int) (h : Kp w b ev s) :
   Calls Tryz.prog 206 #[.pointer (some ⟨b, 0, none⟩)] w (PKeep b w ev 0) := by
  have c1 := h.c1
  have f1 := h.f1
  have H := Lib.hid h
  clear h
  go_enter Tryz.func206, Tryz.ntmps206
  go_wp2
  go_end0
  exact kppset H.out rfl

theorem kpdue_quiet (w : World) (b : Nat) (ev s : Int) (v : Bool) (h : Kp w b ev s) (hv : decide (ev ≤ s) = v) :
   Calls Tryz.prog 97 #[.pointer (some ⟨b, 0, none⟩)] w fun e w' => e = .returned (.bool v) ∧ ∃ m, w' = w.drewN m := by
  subst hv
  have c0 := h.c0
  have c1 := h.c1
  clear h
  go_enter Tryz.func97, Tryz.ntmps97
  go_wp2
  go_quiet (fail)
  go_wp2
  go_ret
  exact ⟨rfl, _, rfl⟩
theorem kpdue_any (w : World) (b : Nat) (ev s : Int) (v : Bool) (h : Kp w b ev s) (hv : decide (ev ≤ s) = v) :
   Calls Tryz.prog 97 #[.pointer (some ⟨b, 0, none⟩)] w (PBool w v) :=
  (kpdue_quiet w b ev s v h hv).mono fun e w' ⟨he, m, hm⟩ => ⟨he, hm ▸ Chg.drewN _ _ _⟩

theorem kpnew_any (n : Int) (h1 : 1 ≤ n) (h2 : n ≤ 10000) (w : World) : Calls Tryz.prog 157 #[.int .i64 n] w (PNewAt w (fun b w' => Kp w' b n 0)) := by
  have e : max 1 (min n 10000) = n := by omega
  rcases (by omega : n < 10000 ∨ n = 10000) with h | rfl
  · rcases (by omega : 1 < n ∨ n = 1) with h3 | rfl
    all_goals
      clear e
      go_enter Tryz.func157, Tryz.ntmps157
      go_wp2_with fail
      go_ret
      exact ⟨_, rfl, block_alloc _ _, Nat.le_refl _, Chg.alloc _ _ _⟩
  · clear e
    go_enter Tryz.func157, Tryz.ntmps157
    go_wp2_with fail
    go_ret
    exact ⟨_, rfl, block_alloc _ _, Nat.le_refl _, Chg.alloc _ _ _⟩
end Go.Proofs.YtnpihllannobgaaGreatDoor
