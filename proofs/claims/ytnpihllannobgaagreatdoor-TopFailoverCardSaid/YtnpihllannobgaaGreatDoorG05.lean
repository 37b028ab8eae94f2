/- What the elements of frames come to: values, slices of them, slices.Equal of numbers. What of, plain and Same come to. slices.IndexFunc and ContainsFunc of numbers and of elements, whatever function is handed to them. Regions that draw their order and whose operations leave what was there as it was: one walk of the text's order serves every order. No condition. -/
import Derived.Test.YtnpihllannobgaaGreatDoorG04
import Derived.RegionTactic
import Derived.ChangeAlike
namespace Go.Proofs.YtnpihllannobgaaGreatDoor
set_option linter.unusedVariables false
set_option linter.unusedSimpArgs false
open Go.ChangeShapes Go.WideShapes Go.ChangeAt Go.RowKit

set_option maxRecDepth 100000 in
set_option maxHeartbeats 4000000 in
theorem equalI_any (w : World) (A B : Option Addr) (m n c d : Nat) (L M : List Int) (h : Rs VI w w.heap.size A m L) (k : Rs VI w w.heap.size B n M) (hm : m ≤ 200000) (hn : n ≤ 200000) :
    Calls Tryz.prog 246 #[.slice A m c, .slice B n d] w fun e w' => e = .returned (.bool (decide (L = M))) ∧ Chg (fun _ => False) w w' := by
  have HR := Lib.hid h
  have HK := Lib.hid k
  have hlL := h.1
  have hlM := k.1
  have hm1 : (m : Int) ≤ 200000 := by omega
  have hn1 : (n : Int) ≤ 200000 := by omega
  clear h k
  by_cases hmn : m = n
  · subst hmn
    have HL := Lib.hid hlL
    have HM := Lib.hid hlM
    clear hlL hlM
    go_enter Tryz.func246, Tryz.ntmps246
    go_wp2_with fail
    go_loopw [13] (fun i wr => ∃ (k : Nat), k ≤ m ∧ i = .int .i64 k ∧ (∀ j, j < k → L[j]? = M[j]?) ∧ Chg (fun _ => False) w wr) (fun i _ => m - (intOf i).toNat)
    case atStart => exact ⟨0, by omega, rfl, fun j hj => absurd hj (by omega), Chg.refl _ _⟩
    case round =>
      obtain ⟨k, hk, rfl, he, hG⟩ := hrel
      have HE := Lib.hid he
      have HG := Lib.hid hG
      clear he hG
      by_cases hlt : k < m
      · obtain ⟨x, z, rfl, _, hz, hc⟩ := ((HR.out.keep HG.out (fun _ _ e => e)).keep (Chg.drew (fun _ => False) wr) (fun _ _ e => e)).at hlt
        obtain ⟨y, u, rfl, _, hu, hd⟩ := ((HK.out.keep HG.out (fun _ _ e => e)).keep (Chg.drew (fun _ => False) wr) (fun _ _ e => e)).at hlt
        unfold VI at hc hd
        have i1 : (k : Int) < (m : Int) := by omega
        have HZ := Lib.hid (And.intro hz hu)
        clear hz hu
        by_cases hzu : z = u
        · have hb : (z != u) = false := by simpa using hzu
          have he1 : ∀ j, j < k + 1 → L[j]? = M[j]? := fun j hj => by
            by_cases e : j = k
            · subst e; rw [HZ.out.1, HZ.out.2, hzu]
            · exact HE.out j (by omega)
          have HE1 := Lib.hid (And.intro he1 (HG.out.trans (Chg.drew (fun _ => False) wr)))
          clear hzu he1 HE HG
          go_wp2_with fail
          with_reducible refine wp_region_still_lit (by kernel_rfl) (by kernel_rfl) ?_
          repeat (with_reducible refine wpStill_step (fun K hK => ?_); go_simp; with_reducible refine hK _ ?_; clear hK K)
          with_reducible refine wpStill_nil ?_
          change Exit.then _ _ _ _ wr.drew
          clear hc hd
          generalize wr.drew = w3 at *
          go_wp2_with fail
          go_roundw
          case measure => simp [intOf]; omega
          case rel => exact ⟨k + 1, by omega, by go_num, HE1.out.1, HE1.out.2⟩
        · have hb : (z != u) = true := by simpa using hzu
          have hne : L ≠ M := list_ne k (by rw [HZ.out.1, HZ.out.2]; simpa using hzu)
          have HE1 := Lib.hid (And.intro hne (HG.out.trans (Chg.drew (fun _ => False) wr)))
          clear hzu hne HE HG
          go_wp2_with fail
          with_reducible refine wp_region_still_lit (by kernel_rfl) (by kernel_rfl) ?_
          repeat (with_reducible refine wpStill_step (fun K hK => ?_); go_simp; with_reducible refine hK _ ?_; clear hK K)
          with_reducible refine wpStill_nil ?_
          change Exit.then _ _ _ _ wr.drew
          clear hc hd
          generalize wr.drew = w3 at *
          go_wp2_with fail
          go_ret
          refine ⟨?_, HE1.out.2⟩
          rw [decide_eq_false HE1.out.1]; rfl
      · obtain rfl : k = m := by omega
        go_wp2_with fail
        go_ret
        refine ⟨?_, HG.out⟩
        rw [decide_eq_true (List.ext_getElem? (fun j => by
          by_cases hj : j < k
          · exact HE.out j hj
          · rw [List.getElem?_eq_none (by rw [HL.out]; omega), List.getElem?_eq_none (by rw [HM.out]; omega)]))]
        rfl
  · have hb : ((m : Int) != (n : Int)) = true := by simp; omega
    have hb2 : (m != n) = true := by simpa using hmn
    have hne : L ≠ M := fun e => hmn (by rw [← hlL, ← hlM, e])
    have HNE := Lib.hid hne
    clear hne hlL hlM
    go_enter Tryz.func246, Tryz.ntmps246
    go_wp2_with fail
    go_ret
    refine ⟨?_, Chg.refl _ _⟩
    rw [decide_eq_false HNE.out]; rfl

/-- an element's value; lv: its list. -/
def elV (e : El) (lv : Value) : Value := .agg #[.int .i64 e.kind, .int .i64 e.asn, .int .i64 e.rank, .int .i64 e.ticks, lv]
/-- a value is an element that reads as e. -/
def EO (w : World) (own : Cls) (v : Value) (e : El) : Prop := ∃ lv, v = elV e lv ∧ RV VI w own lv e.list
/-- the five cells of an element, from cell o of block g on. -/
def Ce (w : World) (g o : Nat) (e : El) (lv : Value) : Prop :=
  w.cell? ⟨g, o, none⟩ = some (.int .i64 e.kind) ∧ w.cell? ⟨g, o + 1, none⟩ = some (.int .i64 e.asn) ∧ w.cell? ⟨g, o + 2, none⟩ = some (.int .i64 e.rank) ∧
    w.cell? ⟨g, o + 3, none⟩ = some (.int .i64 e.ticks) ∧ w.cell? ⟨g, o + 4, none⟩ = some lv
theorem Ce.keep {S : Nat → Prop} {w w' : World} {g o : Nat} {e : El} {lv : Value} (h : Ce w g o e lv) (c : Chg S w w') (hS : ¬ S g) : Ce w' g o e lv := by
  obtain ⟨c0, c1, c2, c3, c4⟩ := h
  have k : ∀ j u, w.cell? ⟨g, j, none⟩ = some u → w'.cell? ⟨g, j, none⟩ = some u := fun j u hc => by rw [c.cell (lt_of_cell hc) hS, hc]
  exact ⟨k _ _ c0, k _ _ c1, k _ _ c2, k _ _ c3, k _ _ c4⟩
/-- a value is a slice of elements that reads as l, in blocks of class 0. -/
def IeO (w : World) (own : Cls) (v : Value) (l : List El) : Prop :=
  (v = .slice none 0 0 ∧ l = []) ∨ ∃ g c, v = .slice (some ⟨g, 0, none⟩) l.length c ∧ own g = 0 ∧ l.length ≤ c ∧ c ≤ maxLen ∧ g < w.heap.size ∧
    ∀ i (h : i < l.length), ∃ lv, Ce w g (i * 5) l[i] lv ∧ RV VI w own lv l[i].list
section
variable {w w' : World} {own own' : Cls} {v : Value} {e : El} {l : List El}
theorem EO.keep {S : Nat → Prop} (h : EO w own v e) (g : Chg S w w') (hS : ∀ j, own j = 0 → ¬ S j) : EO w' own v e := by
  obtain ⟨lv, h1, h2⟩ := h
  exact ⟨lv, h1, h2.keep g hS⟩
theorem EO.ext (h : EO w own v e) (x : Ext w own own') : EO w own' v e := by
  obtain ⟨lv, h1, h2⟩ := h
  exact ⟨lv, h1, h2.ext x⟩
theorem IeO.nil (w : World) (own : Cls) : IeO w own (.slice none 0 0) [] := .inl ⟨rfl, rfl⟩
theorem IeO.keep {S : Nat → Prop} (h : IeO w own v l) (k : Chg S w w') (hS : ∀ j, own j = 0 → ¬ S j) : IeO w' own v l := by
  rcases h with h | ⟨g, c, h1, h2, h3, h4, h0, h5⟩
  · exact .inl h
  · exact .inr ⟨g, c, h1, h2, h3, h4, Nat.lt_of_lt_of_le h0 k.size, fun i hi => by
      obtain ⟨lv, h6, h7⟩ := h5 i hi
      exact ⟨lv, h6.keep k (hS g h2), h7.keep k hS⟩⟩
theorem IeO.ext (h : IeO w own v l) (x : Ext w own own') : IeO w own' v l := by
  rcases h with h | ⟨g, c, h1, h2, h3, h4, h0, h5⟩
  · exact .inl h
  · exact .inr ⟨g, c, h1, (x g h0).trans h2, h3, h4, h0, fun i hi => by
      obtain ⟨lv, h6, h7⟩ := h5 i hi
      exact ⟨lv, h6, h7.ext x⟩⟩
theorem IeO.at (h : IeO w own v l) {i : Nat} {e : El} (hi : l[i]? = some e) : ∃ g c lv, v = .slice (some ⟨g, 0, none⟩) l.length c ∧ Ce w g (i * 5) e lv ∧ RV VI w own lv e.list := by
  obtain ⟨hl, rfl⟩ := List.getElem?_eq_some_iff.1 hi
  rcases h with ⟨_, rfl⟩ | ⟨g, c, h1, h2, h3, h4, h0, h5⟩
  · cases hl
  · obtain ⟨lv, h6, h7⟩ := h5 i hl
    exact ⟨g, c, lv, h1, h6, h7⟩
theorem IeO.val (h : IeO w own v l) : ∃ A c, v = .slice A l.length c := by
  rcases h with ⟨rfl, rfl⟩ | ⟨g, c, h1, _⟩
  · exact ⟨_, _, rfl⟩
  · exact ⟨_, _, h1⟩
theorem RV.rs {V : Int → Value} {L : List Int} (h : RV V w own v L) : ∃ A c, v = .slice A L.length c ∧ Rs V w w.heap.size A L.length L ∧ (A = none → c = 0) ∧ L.length ≤ c ∧ c ≤ maxLen := by
  obtain ⟨A, c, h1, h2, h3, h4, h5⟩ := h
  exact ⟨A, c, h1, h2.rs, h3, h4, h5⟩
end
end Go.Proofs.YtnpihllannobgaaGreatDoor
namespace Go.Proofs.YtnpihllannobgaaGreatDoor
set_option linter.unusedVariables false
set_option linter.unusedSimpArgs false
open Go.ChangeShapes Go.WideShapes Go.ChangeAt Go.RowKit
/-- it returns v; what was there is as it was. -/
def PV (v : Value) (w : World) (e : Ending) (w' : World) : Prop := e = .returned v ∧ Chg (fun _ => False) w w'
theorem of_1 (a b c : Int) (lv : Value) (w : World) : Calls Tryz.prog 153 #[.agg #[.int .i64 1, .int .i64 a, .int .i64 b, .int .i64 c, lv]] w (PV (.iface 273 (.agg #[.int .i64 a, .int .i64 b])) w) := by
  go_enter Tryz.func153, Tryz.ntmps153
  go_wp2_with fail
  go_ret
  exact ⟨rfl, Chg.alloc _ _ _⟩
theorem of_2 (a b c : Int) (lv : Value) (w : World) : Calls Tryz.prog 153 #[.agg #[.int .i64 2, .int .i64 a, .int .i64 b, .int .i64 c, lv]] w (PV (.iface 275 (.agg #[.int .i64 c])) w) := by
  go_enter Tryz.func153, Tryz.ntmps153
  go_wp2_with fail
  go_ret
  exact ⟨rfl, Chg.alloc _ _ _⟩
theorem of_l (k a b c : Int) (A : Option Addr) (n cp : Nat) (w : World) (hk : k = 3 ∨ k = 4) : Calls Tryz.prog 153 #[.agg #[.int .i64 k, .int .i64 a, .int .i64 b, .int .i64 c, .slice A n cp]] w (PV (.iface 277 (.agg #[.slice A n cp])) w) := by
  rcases hk with rfl | rfl
  all_goals
    go_enter Tryz.func153, Tryz.ntmps153
    go_wp2_with fail
    go_ret
    exact ⟨rfl, Chg.alloc _ _ _⟩
theorem of_no (k a b c : Int) (lv : Value) (w : World) (hk : ofE k = false) : Calls Tryz.prog 153 #[.agg #[.int .i64 k, .int .i64 a, .int .i64 b, .int .i64 c, lv]] w (PV .nilIface w) := by
  have h : ¬ (1 ≤ k ∧ k ≤ 4) := by intro h; simp [ofE, inR] at hk; omega
  have h1 : (k == 1) = false := by simp; omega
  have h2 : (k == 2) = false := by simp; omega
  have h3 : (k == 3) = false := by simp; omega
  have h4 : (k == 4) = false := by simp; omega
  clear hk h
  go_enter Tryz.func153, Tryz.ntmps153
  go_wp2_with fail
  go_ret
  exact ⟨rfl, Chg.alloc _ _ _⟩
theorem chgA {S : Nat → Prop} {w0 w : World} (h : Chg S w0 w) (o : Obj) : Chg S w0 (w.alloc o) := h.trans (Chg.alloc _ _ _)
theorem ta_273_273 (x : Value) (w : World) : (Instr.typeAssert (.iface 273 x) 227 273 true).run Tryz.prog w = .ok (.tuple #[x, .bool true]) w := by kernel_rfl
theorem ta_273_275 (x : Value) (w : World) : (Instr.typeAssert (.iface 273 x) 227 275 true).run Tryz.prog w = .ok (.tuple #[.agg #[.int .i64 0], .bool false]) w := by kernel_rfl
theorem ta_273_277 (x : Value) (w : World) : (Instr.typeAssert (.iface 273 x) 227 277 true).run Tryz.prog w = .ok (.tuple #[.agg #[.slice none 0 0], .bool false]) w := by kernel_rfl
theorem ta_275_273 (x : Value) (w : World) : (Instr.typeAssert (.iface 275 x) 227 273 true).run Tryz.prog w = .ok (.tuple #[.agg #[.int .i64 0, .int .i64 0], .bool false]) w := by kernel_rfl
theorem ta_275_275 (x : Value) (w : World) : (Instr.typeAssert (.iface 275 x) 227 275 true).run Tryz.prog w = .ok (.tuple #[x, .bool true]) w := by kernel_rfl
theorem ta_275_277 (x : Value) (w : World) : (Instr.typeAssert (.iface 275 x) 227 277 true).run Tryz.prog w = .ok (.tuple #[.agg #[.slice none 0 0], .bool false]) w := by kernel_rfl
theorem ta_277_273 (x : Value) (w : World) : (Instr.typeAssert (.iface 277 x) 227 273 true).run Tryz.prog w = .ok (.tuple #[.agg #[.int .i64 0, .int .i64 0], .bool false]) w := by kernel_rfl
theorem ta_277_275 (x : Value) (w : World) : (Instr.typeAssert (.iface 277 x) 227 275 true).run Tryz.prog w = .ok (.tuple #[.agg #[.int .i64 0], .bool false]) w := by kernel_rfl
theorem ta_277_277 (x : Value) (w : World) : (Instr.typeAssert (.iface 277 x) 227 277 true).run Tryz.prog w = .ok (.tuple #[x, .bool true]) w := by kernel_rfl
set_option maxRecDepth 100000 in
theorem plain_1 (k a b : Int) (w : World) : Calls Tryz.prog 198 #[.int .i64 k, .iface 273 (.agg #[.int .i64 a, .int .i64 b])] w (PV (.agg #[.int .i64 k, .int .i64 a, .int .i64 b, .int .i64 0, .slice none 0 0]) w) := by
  have t1 := fun w => ta_273_273 (.agg #[.int .i64 a, .int .i64 b]) w
  have t2 := fun w => ta_273_275 (.agg #[.int .i64 a, .int .i64 b]) w
  have t3 := fun w => ta_273_277 (.agg #[.int .i64 a, .int .i64 b]) w
  go_enter Tryz.func198, Tryz.ntmps198
  go_wp2_with fail
  go_region
  all_goals
    go_wp2_with fail
    exact bodyPost_ret (v := .agg #[.int .i64 k, .int .i64 a, .int .i64 b, .int .i64 0, .slice none 0 0]) (by simp [results, Tryz.results198, go_sem]) rfl ⟨rfl, Chg.fresh (by
      repeat (first | exact Chg.refl _ _ | refine Chg.trans ?_ (Chg.alloc _ _ _) | refine Chg.trans ?_ (Chg.drew _ _) | refine Chg.trans ?_ (Chg.set _ _ _ (by simp <;> omega))))⟩
set_option maxRecDepth 100000 in
theorem plain_2 (k a : Int) (w : World) : Calls Tryz.prog 198 #[.int .i64 k, .iface 275 (.agg #[.int .i64 a])] w (PV (.agg #[.int .i64 k, .int .i64 0, .int .i64 0, .int .i64 a, .slice none 0 0]) w) := by
  have t1 := fun w => ta_275_273 (.agg #[.int .i64 a]) w
  have t2 := fun w => ta_275_275 (.agg #[.int .i64 a]) w
  have t3 := fun w => ta_275_277 (.agg #[.int .i64 a]) w
  go_enter Tryz.func198, Tryz.ntmps198
  go_wp2_with fail
  exact bodyPost_ret (v := .agg #[.int .i64 k, .int .i64 0, .int .i64 0, .int .i64 a, .slice none 0 0]) (by simp [results, Tryz.results198, go_sem]) rfl ⟨rfl, ((((Chg.alloc _ _ _).trans (Chg.alloc _ _ _)).trans (Chg.alloc _ _ _)).trans (Chg.alloc _ _ _)).trans (Chg.alloc _ _ _)⟩
set_option maxRecDepth 100000 in
theorem plain_3 (k : Int) (A : Option Addr) (n cp : Nat) (w : World) : Calls Tryz.prog 198 #[.int .i64 k, .iface 277 (.agg #[.slice A n cp])] w (PV (.agg #[.int .i64 k, .int .i64 0, .int .i64 0, .int .i64 0, .slice A n cp]) w) := by
  have t1 := fun w => ta_277_273 (.agg #[.slice A n cp]) w
  have t2 := fun w => ta_277_275 (.agg #[.slice A n cp]) w
  have t3 := fun w => ta_277_277 (.agg #[.slice A n cp]) w
  go_enter Tryz.func198, Tryz.ntmps198
  go_wp2_with fail
  exact bodyPost_ret (v := .agg #[.int .i64 k, .int .i64 0, .int .i64 0, .int .i64 0, .slice A n cp]) (by simp [results, Tryz.results198, go_sem]) rfl ⟨rfl, ((((Chg.alloc _ _ _).trans (Chg.alloc _ _ _)).trans (Chg.alloc _ _ _)).trans (Chg.alloc _ _ _)).trans (Chg.alloc _ _ _)⟩
/-- field by field -/
def sameE (k1 a1 b1 c1 k2 a2 b2 c2 : Int) (L M : List Int) : Bool := k1 == k2 && (a1 == a2 && (b1 == b2 && (c1 == c2 && decide (L = M))))
set_option maxRecDepth 100000 in
set_option maxHeartbeats 4000000 in
theorem same_any (k1 a1 b1 c1 k2 a2 b2 c2 : Int) (A B : Option Addr) (n m c d : Nat) (L M : List Int) (w : World) (h : Rs VI w w.heap.size A n L) (k : Rs VI w w.heap.size B m M) (hn : n ≤ 200000) (hm : m ≤ 200000) :
    Calls Tryz.prog 197 #[.agg #[.int .i64 k1, .int .i64 a1, .int .i64 b1, .int .i64 c1, .slice A n c], .agg #[.int .i64 k2, .int .i64 a2, .int .i64 b2, .int .i64 c2, .slice B m d]] w (PV (.bool (sameE k1 a1 b1 c1 k2 a2 b2 c2 L M)) w) := by
  have HR := Lib.hid h
  have HK := Lib.hid k
  clear h k
  have hfin : ∀ r, sameE k1 a1 b1 c1 k2 a2 b2 c2 L M = r → ∀ w', Chg (fun _ => False) w w' → PV (.bool (sameE k1 a1 b1 c1 k2 a2 b2 c2 L M)) w (.returned (.bool r)) w' := fun r hr w' g => ⟨by rw [hr], g⟩
  have HF := Lib.hid hfin
  clear hfin
  have g2 : Chg (fun _ => False) w ((w.alloc (.cells #[.int .i64 k1, .int .i64 a1, .int .i64 b1, .int .i64 c1, .slice A n c] 172)).alloc (.cells #[.int .i64 k2, .int .i64 a2, .int .i64 b2, .int .i64 c2, .slice B m d] 172)) := (Chg.alloc _ _ _).trans (Chg.alloc _ _ _)
  have HG := Lib.hid g2
  clear g2
  by_cases e1 : (k1 == k2) = true
  · by_cases e2 : (a1 == a2) = true
    · by_cases e3 : (b1 == b2) = true
      · by_cases e4 : (c1 == c2) = true
        · have hv : sameE k1 a1 b1 c1 k2 a2 b2 c2 L M = decide (L = M) := by simp only [sameE, e1, e2, e3, e4, Bool.true_and]
          have HV := Lib.hid hv
          clear hv
          go_enter Tryz.func197, Tryz.ntmps197
          go_wp2_with fail
          (with_reducible refine (equalI_any _ A B n m c d L M ((HR.out.keep HG.out (fun _ _ e => e)).more HG.out.size) ((HK.out.keep HG.out (fun _ _ e => e)).more HG.out.size) hn hm).mono ?_)
          rintro e w1 ⟨rfl, G⟩
          have H1 := Lib.hid (HG.out.trans G)
          clear G
          go_wp2_with fail
          go_ret
          exact HF.out _ HV.out _ H1.out
        · have e4 : (c1 == c2) = false := by simpa using e4
          have hv : sameE k1 a1 b1 c1 k2 a2 b2 c2 L M = false := by simp only [sameE, e1, e2, e3, e4, Bool.true_and, Bool.false_and]
          have HV := Lib.hid hv
          clear hv
          go_enter Tryz.func197, Tryz.ntmps197
          go_wp2_with fail
          go_ret
          exact HF.out _ HV.out _ HG.out
      · have e3 : (b1 == b2) = false := by simpa using e3
        have hv : sameE k1 a1 b1 c1 k2 a2 b2 c2 L M = false := by simp only [sameE, e1, e2, e3, Bool.true_and, Bool.false_and]
        have HV := Lib.hid hv
        clear hv
        go_enter Tryz.func197, Tryz.ntmps197
        go_wp2_with fail
        go_ret
        exact HF.out _ HV.out _ HG.out
    · have e2 : (a1 == a2) = false := by simpa using e2
      have hv : sameE k1 a1 b1 c1 k2 a2 b2 c2 L M = false := by simp only [sameE, e1, e2, Bool.true_and, Bool.false_and]
      have HV := Lib.hid hv
      clear hv
      go_enter Tryz.func197, Tryz.ntmps197
      go_wp2_with fail
      go_ret
      exact HF.out _ HV.out _ HG.out
  · have e1 : (k1 == k2) = false := by simpa using e1
    have hv : sameE k1 a1 b1 c1 k2 a2 b2 c2 L M = false := by simp only [sameE, e1, Bool.true_and, Bool.false_and]
    have HV := Lib.hid hv
    clear hv
    go_enter Tryz.func197, Tryz.ntmps197
    go_wp2_with fail
    go_ret
    exact HF.out _ HV.out _ HG.out
end Go.Proofs.YtnpihllannobgaaGreatDoor
namespace Go.Proofs.YtnpihllannobgaaGreatDoor
set_option linter.unusedVariables false
set_option linter.unusedSimpArgs false
open Go.ChangeShapes Go.WideShapes Go.ChangeAt Go.RowKit

/-- where p is first true; -1: nowhere. -/
def indexP {α : Type} (L : List α) (p : α → Bool) : Int := match L.findIdx? p with | some i => i | none => -1
theorem indexP_at {α : Type} (L : List α) (p : α → Bool) (k : Nat) (x : α) (hk : L[k]? = some x) (hp : p x = true) (h : ∀ j y, j < k → L[j]? = some y → p y = false) : indexP L p = k := by
  have hlt := (List.getElem?_eq_some_iff.1 hk).1
  have : L.findIdx? p = some k := by
    rw [List.findIdx?_eq_some_iff_getElem]
    refine ⟨hlt, by rw [List.getElem?_eq_getElem hlt] at hk; simp at hk; rw [hk]; exact hp, fun j hj => ?_⟩
    have h2 := h j L[j] hj (List.getElem?_eq_getElem (by omega))
    simpa using h2
  unfold indexP; rw [this]
theorem indexP_no {α : Type} (L : List α) (p : α → Bool) (h : ∀ (j : Nat) y, L[j]? = some y → p y = false) : indexP L p = -1 := by
  have : L.findIdx? p = none := by
    rw [List.findIdx?_eq_none_iff]
    intro y hy
    obtain ⟨j, hj, rfl⟩ := List.getElem_of_mem hy
    exact h j _ (List.getElem?_eq_getElem hj)
  unfold indexP; rw [this]
theorem indexP_pos {α : Type} (L : List α) (p : α → Bool) : decide (0 ≤ indexP L p) = L.any p := by
  unfold indexP
  cases h : L.findIdx? p with
  | none =>
    rw [List.findIdx?_eq_none_iff] at h
    have : L.any p = false := by simpa using h
    rw [this]; rfl
  | some i =>
    rw [List.findIdx?_eq_some_iff_getElem] at h
    obtain ⟨hi, he, _⟩ := h
    have : L.any p = true := by rw [List.any_eq_true]; exact ⟨_, List.getElem_mem _, he⟩
    rw [this]; simp
/-- what is asked of a function on numbers that is handed on: it answers p, and what was there is as it was. -/
structure FnI (w : World) (n : Nat) (caps : Array Value) (L : List Int) (p : Int → Bool) : Prop where
  cf : ∀ (args : Array Value) (w' : World), (callFunc n args).run Tryz.prog w' = .ok (.enter n args) w'
  at' : ∀ (z : Int) (w' : World), z ∈ L → Chg (fun _ => False) w w' → Calls Tryz.prog n (#[.int .i64 z] ++ caps) w' (PV (.bool (p z)) w')
theorem cf322 (args : Array Value) (w' : World) : (callFunc 322 args).run Tryz.prog w' = .ok (.enter 322 args) w' := by kernel_rfl
set_option maxRecDepth 100000 in
set_option maxHeartbeats 4000000 in
theorem indexFI_any (w : World) (A : Option Addr) (len c n : Nat) (caps : Array Value) (L : List Int) (p : Int → Bool) (h : Rs VI w w.heap.size A len L) (hL : len ≤ 100000) (hf : FnI w n caps L p) :
    Calls Tryz.prog 195 #[.slice A len c, .func (.func n) #[] caps] w (PV (.int .i64 (indexP L p)) w) := by
  have HR := Lib.hid h
  have HF := Lib.hid hf
  have hl : (len : Int) ≤ 100000 := by omega
  clear h hf
  go_enter Tryz.func195, Tryz.ntmps195
  go_wp2_with fail
  go_loopw [8] (fun i wr => ∃ (k : Nat), k ≤ len ∧ i = .int .i64 k ∧ (∀ j y, j < k → L[j]? = some y → p y = false) ∧ Chg (fun _ => False) w wr) (fun i _ => len - (intOf i).toNat)
  case atStart => exact ⟨0, by omega, rfl, (fun j y hj => absurd hj (by omega)), Chg.refl _ _⟩
  case round =>
    obtain ⟨k, hk, rfl, hno, hG⟩ := hrel
    have HN := Lib.hid hno
    have HG := Lib.hid hG
    clear hno hG
    by_cases hlt : k < len
    · obtain ⟨y, z, rfl, _, hz, hc⟩ := (HR.out.keep HG.out (fun _ _ e => e)).at hlt
      unfold VI at hc
      have hmem := List.mem_of_getElem? hz
      have hcf := HF.out.cf
      have hat := HF.out.at' z wr hmem HG.out
      have HA := Lib.hid hat
      have HZ := Lib.hid hz
      clear hz hat hmem
      go_wp2_with fail
      clear hcf hc
      (with_reducible refine HA.out.mono ?_)
      rintro e w1 ⟨rfl, G1⟩
      have HG1 := Lib.hid (HG.out.trans G1)
      clear G1 HA HG
      by_cases hp : p z = true
      · rw [hp]
        have hi := indexP_at L p k z HZ.out hp HN.out
        have HI := Lib.hid hi
        clear hi hp
        go_wp2_with fail
        go_ret
        rw [HI.out]; exact ⟨rfl, HG1.out⟩
      · have hp : p z = false := by simpa using hp
        rw [hp]
        have hn : ∀ j y, j < k + 1 → L[j]? = some y → p y = false := fun j y hj hy => by
          by_cases e : j = k
          · subst e; rw [HZ.out] at hy; cases hy; exact hp
          · exact HN.out j y (by omega) hy
        have HN1 := Lib.hid hn
        clear hn hp
        go_wp2_with fail
        go_roundw
        case measure => simp [intOf]; omega
        case rel => exact ⟨k + 1, by omega, by go_num, HN1.out, HG1.out⟩
    · obtain rfl : k = len := by omega
      have hi := indexP_no L p (fun j y hj => HN.out j y (by have := (List.getElem?_eq_some_iff.1 hj).1; rw [HR.out.1] at this; exact this) hj)
      have HI := Lib.hid hi
      clear hi
      go_wp2_with fail
      go_ret
      rw [HI.out]; exact ⟨rfl, HG.out⟩
theorem containsFI_any (w : World) (A : Option Addr) (len c n : Nat) (caps : Array Value) (L : List Int) (p : Int → Bool) (h : Rs VI w w.heap.size A len L) (hL : len ≤ 100000) (hf : FnI w n caps L p) :
    Calls Tryz.prog 250 #[.slice A len c, .func (.func n) #[] caps] w (PV (.bool (L.any p)) w) := by
  have hi := indexFI_any w A len c n caps L p h hL hf
  have hp := indexP_pos L p
  rw [← hp]
  clear h hp hf
  generalize indexP L p = q at *
  go_enter Tryz.func250, Tryz.ntmps250
  go_wp2_with fail
  (with_reducible refine hi.mono ?_)
  rintro e w1 ⟨rfl, G⟩
  have HG := Lib.hid G
  clear G hi
  go_wp2_with fail
  go_ret
  exact ⟨rfl, HG.out⟩
theorem lmay1 (z : Int) (w : World) : Calls Tryz.prog 322 #[.int .i64 z] w (PV (.bool (!inR z 0 255)) w) := by
  by_cases h1 : z < 0
  · go_enter Tryz.func322, Tryz.ntmps322
    go_wp2_with fail
    go_ret
    refine ⟨ret_bool ?_, Chg.refl _ _⟩
    simp [inR]; omega
  · have h2 : 0 ≤ z := by omega
    go_enter Tryz.func322, Tryz.ntmps322
    go_wp2_with fail
    go_ret
    refine ⟨ret_bool ?_, Chg.refl _ _⟩
    have e1 : decide (0 ≤ z) = true := by simpa using h2
    unfold inR
    rw [e1, Bool.true_and]
    by_cases h3 : 255 < z
    · rw [decide_eq_false (show ¬ z ≤ 255 by omega)]; simp; omega
    · rw [decide_eq_true (show z ≤ 255 by omega)]; simp; omega
end Go.Proofs.YtnpihllannobgaaGreatDoor
namespace Go.Proofs.YtnpihllannobgaaGreatDoor
set_option linter.unusedVariables false
set_option linter.unusedSimpArgs false
open Go.ChangeShapes Go.WideShapes Go.ChangeAt Go.RowKit

theorem wp_region_cls {P : Program} {id : Nat} {Q : Exit → Act → World → Prop} {a : Act} {w : World} {l : List Oper} {I : Type} (F : I → World) (hm : P.follows .mixedOrders = true) (hB : Region.lexB .any l.toArray = true)
    (hC : ∃ n, w.drew = F n) (h : wpQuiet P l.toArray (fun w' => ∃ n, w' = F n) (fun a' => ∀ w', (∃ n, w' = F n) → Q .normal a' w') l a) : (Code.region id l.toArray true).wp P Q a w :=
  wp_region_quiet (C := fun w' => ∃ n, w' = F n) hm hB hC (by simpa using h)
/-- all worlds in which what was there is as it was, as the values of a function. -/
theorem clsF (w : World) : ∃ (I : Type) (F : I → World), Nonempty I ∧ (∀ n, Chg (fun _ => False) w (F n)) ∧ (∀ W, Chg (fun _ => False) w W → ∃ n, W = F n) :=
  ⟨{W : World // Chg (fun _ => False) w W}, Subtype.val, ⟨⟨w, Chg.refl _ _⟩⟩, fun n => n.2, fun W h => ⟨⟨W, h⟩, rfl⟩⟩
theorem PV.cls {I : Type} {F : I → World} {w : World} (hF : ∀ n, Chg (fun _ => False) w (F n)) (hA : ∀ W, Chg (fun _ => False) w W → ∃ n, W = F n) {f : FuncId} {args : Array Value} {v : Value} {n : I}
    (h : Calls Tryz.prog f args (F n) (PV v (F n))) : Calls Tryz.prog f args (F n) (fun e w' => e = .returned v ∧ ∃ m, w' = F m) :=
  h.mono fun e w' ⟨he, g⟩ => ⟨he, hA _ ((hF n).trans g)⟩
theorem cellF {I : Type} {F : I → World} {w : World} (hF : ∀ n, Chg (fun _ => False) w (F n)) {p : Addr} {v : Value} (h : w.cell? p = some v) (n : I) : (F n).cell? p = some v := by
  rw [(hF n).cell (lt_of_cell h) (fun e => e), h]
end Go.Proofs.YtnpihllannobgaaGreatDoor
