/- What the document's proof of offsets is at first. No condition. -/
import Derived.Test.YtcdfoofkcgoapaaR
import Derived.Deep.LoopGhost
namespace Go.Proofs.Ytcdfoofkcgoapaa
set_option linter.unusedVariables false
open Go.ChangeShapes Go.WideShapes Go.ChangeAt Go.RowKit
def firstL (k : Nat) : List Int := (0 : Int) :: List.replicate (k - 1) (-1)
theorem firstL_len (k : Nat) (h : 1 ≤ k) : (firstL k).length = k := by unfold firstL; rw [List.length_cons, List.length_replicate]; omega
theorem firstL_more (k : Nat) (h : 1 ≤ k) : (firstL k).map V ++ [.int .i64 (-1)] = (firstL (k + 1)).map V := by
  unfold firstL
  have e : k + 1 - 1 = (k - 1) + 1 := by omega
  rw [e, List.replicate_succ']
  simp [V]
def RNew (w : World) (n : Int) (e : Ending) (w' : World) : Prop :=
  ∃ b d cap, e = .returned (.pointer (some ⟨b, 0, none⟩)) ∧ w.heap.size ≤ b ∧ w.heap.size ≤ d ∧ Rk w' b d cap (newf n) ∧ Chg (fun _ => False) w w'
/-- in the midst of 'NewProof': k bounds lie in block g. -/
structure RMid (w : World) (b g cap k : Nat) (w' : World) : Prop where
  head : w'.heap[b]? = some (.cells #[.slice (some ⟨g, 0, none⟩) k cap] 48 (0, 0))
  own : w'.ownsRow w.heap.size 2 1 (.slice (some ⟨g, 0, none⟩) k cap) k ((firstL k).map V)
  ne : b ≠ g
  chg : Chg (fun k => w.heap.size ≤ k) w w'
theorem RMid.end {w w' : World} {b g cap k : Nat} {n : Int} (h : RMid w b g cap k w') (hk : k = many n) (hk1 : 1 ≤ k) (hb : w.heap.size ≤ b) : RNew w n (.returned (.pointer (some ⟨b, 0, none⟩))) w' := by
  have hl : firstL k = newf n := by unfold firstL newf; rw [hk]
  have hgb := (h.own.lt g rfl).1
  refine ⟨b, g, cap, rfl, hb, hgb, ⟨?_, ?_, h.ne⟩, h.chg.fresh⟩
  · rw [newf_len, ← hk]; exact h.head
  · obtain ⟨hx, h2⟩ := h.own
    rcases h2 with ⟨hv, _⟩ | ⟨g', cap', cur, hv, _, hg, hn, _, hsz, ht⟩
    · cases hv
    · cases hv
      refine ⟨cur, hg, by rw [newf_len, ← hk]; omega, fun i z hz => ?_⟩
      rw [← hl] at hz
      have hik : i < k := by have := (List.getElem?_eq_some_iff.1 hz).1; rw [firstL_len k hk1] at this; exact this
      have h1 : ((firstL k).map V)[i]? = some (V z) := by rw [List.getElem?_map, hz]; rfl
      rw [← ht, List.getElem?_take, if_pos (by omega)] at h1
      simpa [V] using h1
theorem info_parts : ∃ i, Try.prog.info? 2 = some i ∧ i.zero = some (.int .i64 0) ∧ i.size = 1 ∧ i.bytes = 8 := by
  obtain ⟨i0, hi, hx⟩ := Option.map_eq_some_iff.1 Try.info2
  simp only [Prod.mk.injEq] at hx
  exact ⟨i0, hi, hx⟩
theorem chg_grown {S : Nat → Prop} {w w' : World} {row : Option Nat} (h : w.grownBy w' row) (hr : ∀ k, row = some k → S k) : Chg S w w' :=
  ⟨h.os, h.tape, h.output, h.size, fun k hk hn => h.block k hk (fun e => hn (hr k e.symm))⟩

theorem own_chg {S : Nat → Prop} {w w' : World} {base e size n : Nat} {v : Value} {xs : List Value} (h : w.ownsRow base e size v n xs) (g : Chg S w w') (hS : ∀ k, v.ownBlock = some k → ¬ S k) : w'.ownsRow base e size v n xs := by
  refine ⟨h.1, ?_⟩
  rcases h.2 with hn | ⟨k, cap, cur, rfl, hb, hgg, rest⟩
  · exact .inl hn
  · exact .inr ⟨k, cap, cur, rfl, hb, Chg.keep g hgg (hS k rfl), rest⟩
set_option maxRecDepth 100000 in
set_option maxHeartbeats 2000000 in
theorem rnew_any (w : World) (n : Int) : Calls Try.prog 15 #[.int .i64 n] w (RNew w n) := by
  have hm1 : 1 ≤ many n ∧ many n ≤ 16 := by unfold many; omega
  obtain ⟨hm1, hm2⟩ := hm1
  obtain ⟨m, hm⟩ : ∃ m, m = many n := ⟨_, rfl⟩
  rw [← hm] at hm1 hm2
  have hme : max 1 (min n 16) = (m : Int) := by unfold many at hm; omega
  have HM := Lib.hid hm
  clear hm
  obtain ⟨i0, hi, hz0, hz1, hz2⟩ := info_parts
  rcases (by omega : (n ≤ 1 ∧ m = 1) ∨ (16 < n ∧ m = 16) ∨ (1 < n ∧ n ≤ 16 ∧ n = m)) with ⟨h1, rfl⟩ | ⟨h1, rfl⟩ | ⟨h1, h2, rfl⟩
  · clear hme
    have HI := Lib.hid hi
    have HZ0 := Lib.hid hz0
    have HZ1 := Lib.hid hz1
    have HZ2 := Lib.hid hz2
    clear hi hz0 hz1 hz2
    go_enter Try.func15, Try.ntmps15
    go_wp2_with fail
    have M0 : RMid w (w.heap.size + 1) w.heap.size 1 1 ((w.alloc (.cells #[.int .i64 0] 2)).alloc (.cells #[.slice (some ⟨w.heap.size, 0, none⟩) 1 1] 48)) := by
      refine ⟨?_, ⟨rfl, .inr ⟨w.heap.size, 1, #[.int .i64 0], rfl, Nat.le_refl _, ?_, Nat.le_refl _, by simp [maxLen], rfl, rfl⟩⟩, by omega, (Chg.alloc _ _ _).trans (Chg.alloc _ _ _)⟩
      · have := block_alloc (w.alloc (.cells #[.int .i64 0] 2)) (.cells #[.slice (some ⟨w.heap.size, 0, none⟩) 1 1] 48)
        rw [World.size_alloc] at this; exact this
      · exact Chg.keep (Chg.alloc (fun _ => False) _ _) (block_alloc w (.cells #[.int .i64 0] 2)) (fun f => f)
    obtain ⟨g0, hg0⟩ : ∃ g0, g0 = w.heap.size := ⟨_, rfl⟩
    have hb : w.heap.size ≤ w.heap.size + 1 := by omega
    generalize (w.alloc (.cells #[.int .i64 0] 2)).alloc (.cells #[.slice (some ⟨w.heap.size, 0, none⟩) 1 1] 48) = w2 at *
    obtain ⟨b, hbb⟩ : ∃ b, b = w.heap.size + 1 := ⟨_, rfl⟩
    rw [← hbb] at M0 hb
    rw [← hbb]
    rw [← hg0] at M0
    clear hbb hg0
    go_loopg [7] 16 (fun gk u7 wr => ∃ (k g cap : Nat), 1 ≤ k ∧ k ≤ 1 ∧ k + gk = 17 ∧ RMid w b g cap k wr)
    case atStart => exact ⟨1, g0, 1, by omega, by omega, rfl, M0⟩
    case round =>
      obtain ⟨k, g, cap, hk1, hkm, hgk, hp⟩ := hrel
      clear M0
      have HP := Lib.hid hp
      have c : wr.cell? ⟨b, 0, none⟩ = some (.slice (some ⟨g, 0, none⟩) k cap) := by rw [cell_of_block hp.head]; rfl
      have f : wr.frozen? ⟨b, 0, none⟩ = false := frozen_of_block hp.head 0
      have hbl : b < wr.heap.size := lt_of_block hp.head
      clear hp
      by_cases hlt : k < 1
      · exact absurd hlt (by omega)
      · obtain rfl : k = 1 := by omega
        go_wp2_with fail
        go_ret
        exact HP.out.end HM.out (by omega) hb
  · clear hme
    have HI := Lib.hid hi
    have HZ0 := Lib.hid hz0
    have HZ1 := Lib.hid hz1
    have HZ2 := Lib.hid hz2
    clear hi hz0 hz1 hz2
    go_enter Try.func15, Try.ntmps15
    go_wp2_with fail
    have M0 : RMid w (w.heap.size + 1) w.heap.size 1 1 ((w.alloc (.cells #[.int .i64 0] 2)).alloc (.cells #[.slice (some ⟨w.heap.size, 0, none⟩) 1 1] 48)) := by
      refine ⟨?_, ⟨rfl, .inr ⟨w.heap.size, 1, #[.int .i64 0], rfl, Nat.le_refl _, ?_, Nat.le_refl _, by simp [maxLen], rfl, rfl⟩⟩, by omega, (Chg.alloc _ _ _).trans (Chg.alloc _ _ _)⟩
      · have := block_alloc (w.alloc (.cells #[.int .i64 0] 2)) (.cells #[.slice (some ⟨w.heap.size, 0, none⟩) 1 1] 48)
        rw [World.size_alloc] at this; exact this
      · exact Chg.keep (Chg.alloc (fun _ => False) _ _) (block_alloc w (.cells #[.int .i64 0] 2)) (fun f => f)
    obtain ⟨g0, hg0⟩ : ∃ g0, g0 = w.heap.size := ⟨_, rfl⟩
    have hb : w.heap.size ≤ w.heap.size + 1 := by omega
    generalize (w.alloc (.cells #[.int .i64 0] 2)).alloc (.cells #[.slice (some ⟨w.heap.size, 0, none⟩) 1 1] 48) = w2 at *
    obtain ⟨b, hbb⟩ : ∃ b, b = w.heap.size + 1 := ⟨_, rfl⟩
    rw [← hbb] at M0 hb
    rw [← hbb]
    rw [← hg0] at M0
    clear hbb hg0
    go_loopg [7] 16 (fun gk u7 wr => ∃ (k g cap : Nat), 1 ≤ k ∧ k ≤ 16 ∧ k + gk = 17 ∧ RMid w b g cap k wr)
    case atStart => exact ⟨1, g0, 1, by omega, by omega, rfl, M0⟩
    case round =>
      obtain ⟨k, g, cap, hk1, hkm, hgk, hp⟩ := hrel
      clear M0
      have HP := Lib.hid hp
      have c : wr.cell? ⟨b, 0, none⟩ = some (.slice (some ⟨g, 0, none⟩) k cap) := by rw [cell_of_block hp.head]; rfl
      have f : wr.frozen? ⟨b, 0, none⟩ = false := frozen_of_block hp.head 0
      have hbl : b < wr.heap.size := lt_of_block hp.head
      clear hp
      by_cases hlt : k < 16
      · go_wp2_with (at_builtin; go_loud (refine wpList_append_own _ rfl (.tmp 19) (.tmp 20) 40 rfl w.heap.size 2 i0 (.int .i64 0) 1 8 Try.underlying40 HI.out HZ0.out HZ1.out HZ2.out rfl (by decide) (.slice (some ⟨g, 0, none⟩) k cap) k ((firstL k).map V) rfl (HP.out.own.alloc _) ⟨wr.heap.size, 0, none⟩ 1 1 [.int .i64 (-1)] rfl rfl ?c1 ?c2 (by unfold maxLen; omega) (by omega) ?hb ?grow))
        case c1 => intro j u hj; match j, hj with | 0, hj => simp at hj; subst hj; simp [Addr.add]
        case c2 => intro u hu; simp at hu; subst hu; rfl
        case hb => have := HP.out.chg.size; simp; omega
        case grow =>
          intro v' w' hown hgr hnil
          have hP := HP.out
          have gA := Chg.alloc (fun _ => False) wr (.cells #[.int .i64 (-1)] 2)
          have ga := chg_grown (S := fun k => k = g) hgr (fun k hk => by simp [Value.ownBlock] at hk; exact hk.symm)
          have hb1 := Chg.keep ga (Chg.keep gA hP.head (fun f => f)) hP.ne
          have hgl := (hP.own.lt g rfl).1
          have G1 := (hP.chg.trans gA.none).trans (ga.one hgl)
          rw [firstL_more k hk1] at hown
          rcases hown.2 with ⟨_, hn0⟩ | ⟨g', cap', cur, rfl, hbg', hg', _⟩
          · exact absurd hn0 (by omega)
          · have hne : b ≠ g' := fun e => by
              rw [e, hg'] at hb1
              cases hb1
            have hown2 := own_chg hown (chg1 w' b 0 (.slice (some ⟨g', 0, none⟩) (k + 1) cap')) (fun j hj => by simp [Value.ownBlock] at hj; omega)
            have RM : RMid w b g' cap' (k + 1) (w'.setCell ⟨b, 0, none⟩ (.slice (some ⟨g', 0, none⟩) (k + 1) cap')) :=
              ⟨by rw [block_set hb1 0 _]; rfl, hown2, hne, G1.trans ((chg1 w' b 0 _).one hb)⟩
            have HRM := Lib.hid RM
            have c' : w'.cell? ⟨b, 0, none⟩ = some (.slice (some ⟨g, 0, none⟩) k cap) := by rw [cell_of_block hb1]; rfl
            have f' : w'.frozen? ⟨b, 0, none⟩ = false := frozen_of_block hb1 0
            clear hP gA ga hb1 hgl G1 hown hown2 hg' hbg' RM c f hbl hnil hgr HP
            go_wp2_with fail
            go_roundg (gk - 1)
            case measure => omega
            case rel => exact ⟨k + 1, g', cap', by omega, by omega, by omega, HRM.out⟩
      · obtain rfl : k = 16 := by omega
        go_wp2_with fail
        go_ret
        exact HP.out.end HM.out (by omega) hb
  · clear hme
    have HI := Lib.hid hi
    have HZ0 := Lib.hid hz0
    have HZ1 := Lib.hid hz1
    have HZ2 := Lib.hid hz2
    clear hi hz0 hz1 hz2
    go_enter Try.func15, Try.ntmps15
    go_wp2_with fail
    have M0 : RMid w (w.heap.size + 1) w.heap.size 1 1 ((w.alloc (.cells #[.int .i64 0] 2)).alloc (.cells #[.slice (some ⟨w.heap.size, 0, none⟩) 1 1] 48)) := by
      refine ⟨?_, ⟨rfl, .inr ⟨w.heap.size, 1, #[.int .i64 0], rfl, Nat.le_refl _, ?_, Nat.le_refl _, by simp [maxLen], rfl, rfl⟩⟩, by omega, (Chg.alloc _ _ _).trans (Chg.alloc _ _ _)⟩
      · have := block_alloc (w.alloc (.cells #[.int .i64 0] 2)) (.cells #[.slice (some ⟨w.heap.size, 0, none⟩) 1 1] 48)
        rw [World.size_alloc] at this; exact this
      · exact Chg.keep (Chg.alloc (fun _ => False) _ _) (block_alloc w (.cells #[.int .i64 0] 2)) (fun f => f)
    obtain ⟨g0, hg0⟩ : ∃ g0, g0 = w.heap.size := ⟨_, rfl⟩
    have hb : w.heap.size ≤ w.heap.size + 1 := by omega
    generalize (w.alloc (.cells #[.int .i64 0] 2)).alloc (.cells #[.slice (some ⟨w.heap.size, 0, none⟩) 1 1] 48) = w2 at *
    obtain ⟨b, hbb⟩ : ∃ b, b = w.heap.size + 1 := ⟨_, rfl⟩
    rw [← hbb] at M0 hb
    rw [← hbb]
    rw [← hg0] at M0
    clear hbb hg0
    go_loopg [7] 16 (fun gk u7 wr => ∃ (k g cap : Nat), 1 ≤ k ∧ k ≤ m ∧ k + gk = 17 ∧ RMid w b g cap k wr)
    case atStart => exact ⟨1, g0, 1, by omega, by omega, rfl, M0⟩
    case round =>
      obtain ⟨k, g, cap, hk1, hkm, hgk, hp⟩ := hrel
      clear M0
      have HP := Lib.hid hp
      have c : wr.cell? ⟨b, 0, none⟩ = some (.slice (some ⟨g, 0, none⟩) k cap) := by rw [cell_of_block hp.head]; rfl
      have f : wr.frozen? ⟨b, 0, none⟩ = false := frozen_of_block hp.head 0
      have hbl : b < wr.heap.size := lt_of_block hp.head
      clear hp
      by_cases hlt : k < m
      · go_wp2_with (at_builtin; go_loud (refine wpList_append_own _ rfl (.tmp 19) (.tmp 20) 40 rfl w.heap.size 2 i0 (.int .i64 0) 1 8 Try.underlying40 HI.out HZ0.out HZ1.out HZ2.out rfl (by decide) (.slice (some ⟨g, 0, none⟩) k cap) k ((firstL k).map V) rfl (HP.out.own.alloc _) ⟨wr.heap.size, 0, none⟩ 1 1 [.int .i64 (-1)] rfl rfl ?c1 ?c2 (by unfold maxLen; omega) (by omega) ?hb ?grow))
        case c1 => intro j u hj; match j, hj with | 0, hj => simp at hj; subst hj; simp [Addr.add]
        case c2 => intro u hu; simp at hu; subst hu; rfl
        case hb => have := HP.out.chg.size; simp; omega
        case grow =>
          intro v' w' hown hgr hnil
          have hP := HP.out
          have gA := Chg.alloc (fun _ => False) wr (.cells #[.int .i64 (-1)] 2)
          have ga := chg_grown (S := fun k => k = g) hgr (fun k hk => by simp [Value.ownBlock] at hk; exact hk.symm)
          have hb1 := Chg.keep ga (Chg.keep gA hP.head (fun f => f)) hP.ne
          have hgl := (hP.own.lt g rfl).1
          have G1 := (hP.chg.trans gA.none).trans (ga.one hgl)
          rw [firstL_more k hk1] at hown
          rcases hown.2 with ⟨_, hn0⟩ | ⟨g', cap', cur, rfl, hbg', hg', _⟩
          · exact absurd hn0 (by omega)
          · have hne : b ≠ g' := fun e => by
              rw [e, hg'] at hb1
              cases hb1
            have hown2 := own_chg hown (chg1 w' b 0 (.slice (some ⟨g', 0, none⟩) (k + 1) cap')) (fun j hj => by simp [Value.ownBlock] at hj; omega)
            have RM : RMid w b g' cap' (k + 1) (w'.setCell ⟨b, 0, none⟩ (.slice (some ⟨g', 0, none⟩) (k + 1) cap')) :=
              ⟨by rw [block_set hb1 0 _]; rfl, hown2, hne, G1.trans ((chg1 w' b 0 _).one hb)⟩
            have HRM := Lib.hid RM
            have c' : w'.cell? ⟨b, 0, none⟩ = some (.slice (some ⟨g, 0, none⟩) k cap) := by rw [cell_of_block hb1]; rfl
            have f' : w'.frozen? ⟨b, 0, none⟩ = false := frozen_of_block hb1 0
            clear hP gA ga hb1 hgl G1 hown hown2 hg' hbg' RM c f hbl hnil hgr HP
            go_wp2_with fail
            go_roundg (gk - 1)
            case measure => omega
            case rel => exact ⟨k + 1, g', cap', by omega, by omega, by omega, HRM.out⟩
      · obtain rfl : k = m := by omega
        go_wp2_with fail
        go_ret
        exact HP.out.end HM.out (by omega) hb
end Go.Proofs.Ytcdfoofkcgoapaa
