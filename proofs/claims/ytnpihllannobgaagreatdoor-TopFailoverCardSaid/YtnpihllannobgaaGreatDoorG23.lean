/- A frame's bytes read as the frame. What goes back to a frame that asks for an answer. What comes back to who sent. No condition. -/
import Derived.Test.YtnpihllannobgaaGreatDoorG17
import Derived.Test.YtnpihllannobgaaGreatDoorG19
import Derived.Test.YtnpihllannobgaaGreatDoorG22
import Derived.Deep.RegionHeld3
namespace Go.Proofs.YtnpihllannobgaaGreatDoor
set_option linter.unusedVariables false
set_option linter.unusedSimpArgs false

theorem rTake_app (m : Nat) (x : Int) (R : List Int) (hx : num (be m x) = x) : rTake ⟨be m x ++ R, 0⟩ m = x := by
  have hl := be_len m x
  unfold rTake
  rw [if_pos ⟨rfl, by simp [hl]⟩]
  simp only []
  rw [List.take_append_of_le_length (by omega), List.take_of_length_le (by omega)]
  exact hx
theorem rTakeS_app (m : Nat) (x : Int) (R : List Int) : rTakeS ⟨be m x ++ R, 0⟩ m = ⟨R, 0⟩ := by
  have hl := be_len m x
  unfold rTakeS
  rw [if_pos rfl, if_pos (by simp [hl])]
  simp only []
  rw [List.drop_append_of_le_length (by omega), List.drop_of_length_le (by omega)]
  rfl
theorem rTake_one (x : Int) (R : List Int) : rTake ⟨x :: R, 0⟩ 1 = x := by
  unfold rTake
  rw [if_pos ⟨rfl, by simp⟩]
  simp [num]
theorem rTakeS_one (x : Int) (R : List Int) : rTakeS ⟨x :: R, 0⟩ 1 = ⟨R, 0⟩ := by
  unfold rTakeS
  rw [if_pos rfl, if_pos (by simp)]
  rfl
theorem rText_app (T R : List Int) (n : Int) (h : n = T.length) : rText ⟨T ++ R, 0⟩ n = T := by
  subst h
  unfold rText
  rw [if_pos ⟨rfl, by simp; omega⟩]
  simp
theorem rTextS_app (T R : List Int) (n : Int) (h : n = T.length) : rTextS ⟨T ++ R, 0⟩ n = ⟨R, 0⟩ := by
  subst h
  unfold rTextS
  by_cases h : (T.length : Int) ≤ 0
  · rw [if_pos h]
    have : T = [] := List.eq_nil_of_length_eq_zero (by omega)
    subst this; rfl
  · rw [if_neg h, if_pos rfl, if_pos (by simp; omega)]
    simp
theorem short_ok (R : List Int) : shortR ⟨R, 0⟩ = false := by
  unfold shortR rEnd
  rw [if_pos rfl]
  split <;> rfl
theorem be1 (x : Int) (h0 : 0 ≤ x) (h1 : x < 256) : be 1 x = [x] := by
  simp only [be]
  rw [Int.pow_zero, Int.ediv_one, Int.emod_eq_of_lt h0 h1]
theorem num_be5 (x : Int) (h0 : 0 ≤ x) (h1 : x < 1099511627776) : num (be 5 x) = x := by
  simp only [be, num, List.foldl]
  have e4 : (256 : Int) ^ 4 = 4294967296 := rfl
  have e3 : (256 : Int) ^ 3 = 16777216 := rfl
  have e2 : (256 : Int) ^ 2 = 65536 := rfl
  have e1 : (256 : Int) ^ 1 = 256 := rfl
  have e0 : (256 : Int) ^ 0 = 1 := rfl
  rw [e4, e3, e2, e1, e0]
  omega
theorem num_be2 (x : Int) (h0 : -32768 ≤ x) (h1 : x ≤ 32767) : i16 (num (be 2 (IntKind.u64.wrap x))) = x := by
  have hw : IntKind.u64.wrap x = x % 18446744073709551616 := rfl
  rw [hw]
  simp only [be, num, List.foldl, i16]
  split <;> omega
theorem oneE_enc (e : El) (h : mayE e = true) (R : List Int) : oneE ⟨encE e ++ R, 0⟩ = (0, e, ⟨R, 0⟩) := by
  unfold mayE at h
  simp only [Bool.and_eq_true, decide_eq_true_eq] at h
  obtain ⟨h1, h2, h3⟩ := h
  have hk := h1
  simp only [ofE, inR, Bool.and_eq_true, decide_eq_true_eq] at hk
  unfold oneE encE
  rw [List.cons_append]
  simp only [rTake_one, rTakeS_one, short_ok, h1, Bool.not_true, Bool.false_eq_true, if_false]
  unfold insideE at h2
  unfold plainE at h3
  unfold bodyE
  by_cases k1 : e.kind = 1
  · rw [if_pos k1] at h2 h3
    simp only [Bool.and_eq_true, decide_eq_true_eq, inR] at h2
    obtain ⟨⟨a0, a1⟩, b0, b1⟩ := h2
    rw [if_pos k1, k1]
    simp only [List.cons_append, rTake_one, rTakeS_one, short_ok, Bool.false_eq_true, if_false]
    have e1 : rightE 1 6 = true := rfl
    rw [e1]
    simp only [Bool.not_true, Bool.false_eq_true, if_false, takeES, takeE, if_true]
    rw [List.append_assoc, rTakeS_app, rTake_app 5 _ _ (num_be5 _ a0 (by omega)), be1 _ b0 (by omega)]
    simp only [List.cons_append, rTake_one, rTakeS_one, short_ok, Bool.false_eq_true, if_false, List.nil_append]
    rw [← h3]
  · rw [if_neg k1] at h2 h3
    rw [if_neg k1]
    by_cases k2 : e.kind = 2
    · rw [if_pos k2] at h2 h3
      simp only [Bool.and_eq_true, decide_eq_true_eq, inR] at h2
      obtain ⟨a0, a1⟩ := h2
      rw [if_pos k2, k2]
      simp only [List.cons_append, rTake_one, rTakeS_one, short_ok, Bool.false_eq_true, if_false]
      have e1 : rightE 2 2 = true := rfl
      rw [e1]
      have t : rTake ⟨be 2 (IntKind.u64.wrap e.ticks) ++ R, 0⟩ 2 = num (be 2 (IntKind.u64.wrap e.ticks)) := by
        unfold rTake
        rw [if_pos ⟨rfl, by simp [be_len]⟩]
        simp only []
        rw [List.take_append_of_le_length (by simp [be_len]), List.take_of_length_le (by simp [be_len])]
      simp only [Bool.not_true, Bool.false_eq_true, if_false, takeES, takeE, if_true]
      have n21 : ¬ (2 : Int) = 1 := by decide
      rw [if_neg n21, if_neg n21, rTakeS_app, t, num_be2 _ a0 a1, if_neg (by rw [short_ok]; simp)]
      rw [← h3]
    · rw [if_neg k2] at h2 h3
      rw [if_neg k2]
      simp only [Bool.and_eq_true, decide_eq_true_eq] at h2
      simp only [List.cons_append, rTake_one, rTakeS_one, short_ok, Bool.false_eq_true, if_false]
      have e1 : rightE e.kind (e.list.length : Int) = true := by
        unfold rightE
        rw [if_neg k1, if_neg k2]
        simp; omega
      rw [e1]
      simp only [Bool.not_true, Bool.false_eq_true, if_false, takeES, takeE, if_neg k1, if_neg k2]
      rw [rTextS_app _ _ _ rfl, rText_app _ _ _ rfl]
      simp only [short_ok, Bool.false_eq_true, if_false]
      rw [← h3]
theorem loopE_enc (l acc : List El) (h : ∀ e ∈ l, mayE e = true) (R : List Int) : loopE l.length acc ⟨l.flatMap encE ++ R, 0⟩ = (0, acc ++ l, ⟨R, 0⟩) := by
  induction l generalizing acc with
  | nil => simp [loopE]
  | cons e l ih =>
    rw [List.length_cons, List.flatMap_cons, List.append_assoc]
    unfold loopE
    rw [oneE_enc e (h e (by simp))]
    simp only [if_true]
    rw [ih (acc ++ [e]) (fun x hx => h x (by simp [hx]))]
    simp
theorem decI_enc (l : List El) (h : ∀ e ∈ l, mayE e = true) (hl : l.length ≤ 4) : decI (encI l) = (0, l) := by
  unfold decI encI
  simp only [rTake_one, rTakeS_one, short_ok, Bool.false_eq_true, if_false]
  rw [if_neg (by omega)]
  have := loopE_enc l [] h []
  rw [List.append_nil] at this
  rw [Int.toNat_natCast, this]
  simp [rEnd]
theorem decF_enc (f : Fr) (h : mayF f = true) : decF (encF f) = (0, f) := by
  obtain ⟨m1, m2, m3, m4, m5, m6, m7, m8, m9, ma, mb⟩ := mayF_of h
  have hi : (encI f.ies).length ≤ 18 * f.ies.length + 1 := by
    have := encI_len m2
    unfold encI
    simp only [List.length_cons]
    omega
  have hb : 8 ≤ (bodyF f).length := by
    unfold bodyF headF
    simp only [List.length_append, be_len]
    unfold encI
    simp only [List.length_cons]
    omega
  have hl : (encF f).length = (bodyF f).length + 2 := by unfold encF crcTail; simp
  have ht : (encF f).take ((encF f).length - 2) = bodyF f := by
    rw [hl]; unfold encF; simp
  have hg : crcGood (encF f) = true := by
    unfold crcGood
    rw [ht]
    simp only [Bool.and_eq_true, decide_eq_true_eq]
    exact ⟨by omega, rfl⟩
  have hr : readF ⟨bodyF f, 0⟩ = (197, ⟨f.kind, f.src, f.dst, f.seq, [], f.data⟩, encI f.ies, ⟨[], 0⟩) := by
    unfold readF bodyF headF
    simp only [List.append_assoc]
    rw [be1 197 (by decide) (by decide), be1 f.kind (by omega) (by omega), be1 f.src (by omega) (by omega), be1 f.dst (by omega) (by omega), be1 f.seq (by omega) (by omega), be1 ((encI f.ies).length : Int) (by omega) (by omega), be1 (f.data.length : Int) (by omega) (by omega)]
    simp only [List.cons_append, List.nil_append, rTake_one, rTakeS_one]
    rw [rText_app _ _ _ rfl, rTextS_app _ _ _ rfl]
    simp only [rTake_one, rTakeS_one]
    have e1 := rText_app f.data [] f.data.length rfl
    have e2 := rTextS_app f.data [] f.data.length rfl
    rw [List.append_nil] at e1 e2
    rw [e1, e2]
  unfold decF
  rw [if_neg (by omega), hg, ht, hr]
  simp only [Bool.not_true, Bool.false_eq_true, if_false]
  rw [if_neg (by simp [rEnd]), decI_enc f.ies m2 m1]
  simp only [ne_eq, not_true_eq_false, if_false]
  rw [if_pos h]
theorem encF_byte (f : Fr) (h : mayF f = true) (hd : ∀ x ∈ f.data, 0 ≤ x ∧ x < 256) : ∀ x ∈ encF f, 0 ≤ x ∧ x < 256 := by
  obtain ⟨m1, m2, _⟩ := mayF_of h
  have hi := encI_byte m1 m2
  have hs := crcSum_bd (bodyF f)
  have hb : ∀ x ∈ bodyF f, 0 ≤ x ∧ x < 256 := by
    intro x hx
    unfold bodyF headF at hx
    simp only [List.mem_append] at hx
    rcases hx with ((((((((hx | hx) | hx) | hx) | hx) | hx) | hx) | hx) | hx)
    · exact be_byte _ _ x hx
    · exact be_byte _ _ x hx
    · exact be_byte _ _ x hx
    · exact be_byte _ _ x hx
    · exact be_byte _ _ x hx
    · exact be_byte _ _ x hx
    · exact hi x hx
    · exact be_byte _ _ x hx
    · exact hd x hx
  intro x hx
  unfold encF crcTail at hx
  rw [List.mem_append] at hx
  rcases hx with hx | hx
  · exact hb x hx
  · simp at hx
    rcases hx with rfl | rfl <;> omega
end Go.Proofs.YtnpihllannobgaaGreatDoor
namespace Go.Proofs.YtnpihllannobgaaGreatDoor
set_option linter.unusedVariables false
set_option linter.unusedSimpArgs false
open Go.ChangeShapes Go.WideShapes Go.ChangeAt Go.RowKit

theorem getc2 (x0 x1 x2 x3 x4 y0 y1 y2 y3 y4 : Value) (t : TypeId) (w : World) (g : Nat) (h : w.heap[g]? = some (.cells #[x0, x1, x2, x3, x4, y0, y1, y2, y3, y4] t (0, 0))) :
    w.ownsRow g t 5 (.slice (some ⟨g, 0, none⟩) 2 2) 2 [x0, x1, x2, x3, x4, y0, y1, y2, y3, y4] :=
  ⟨rfl, .inr ⟨g, 2, _, rfl, Nat.le_refl _, h, Nat.le_refl _, by decide, rfl, rfl⟩⟩
theorem IeO.twoT {w : World} {o : Cls} {g cap base : Nat} {e f : El} {lv mv : Value}
    (h : w.ownsRow base 172 5 (.slice (some ⟨g, 0, none⟩) 2 cap) 2 [.int .i64 e.kind, .int .i64 e.asn, .int .i64 e.rank, .int .i64 e.ticks, lv, .int .i64 f.kind, .int .i64 f.asn, .int .i64 f.rank, .int .i64 f.ticks, mv])
    (ho : o g = 0) (hl : RV VI w o lv e.list) (hm : RV VI w o mv f.list) : IeO w o (.slice (some ⟨g, 0, none⟩) 2 cap) [e, f] := by
  rcases own_val h with ⟨e1, _⟩ | ⟨g2, c2, e1, hb, hg, hc, hmx⟩
  · cases e1
  · cases e1
    refine .inr ⟨g, cap, rfl, ho, hc, hmx, hg, fun i hi => ?_⟩
    have : i = 0 ∨ i = 1 := by simp at hi; omega
    rcases this with rfl | rfl
    · exact ⟨lv, ⟨own_cellS h 0 _ rfl, own_cellS h 1 _ rfl, own_cellS h 2 _ rfl, own_cellS h 3 _ rfl, own_cellS h 4 _ rfl⟩, hl⟩
    · exact ⟨mv, ⟨own_cellS h 5 _ rfl, own_cellS h 6 _ rfl, own_cellS h 7 _ rfl, own_cellS h 8 _ rfl, own_cellS h 9 _ rfl⟩, hm⟩
section
variable {w0 w w' : World} {o0 o o' : Cls} {c : Cfg} {i b : Nat} {s s' : NSt} {r r' : NR}
def PEn (a : Option (List Int)) (o : Cls) (w : World) (en : Ending) (w' : World) : Prop := ∃ (y : Value) (e : Int), en = .returned (.tuple #[y, .int .i64 e]) ∧ AV a y w' o ∧ Chg (fun _ => False) w w'
def PAV (a : Option (List Int)) (w : World) (o : Cls) (en : Ending) (w' : World) : Prop := ∃ v, en = .returned v ∧ AV a v w' o ∧ Chg (fun _ => False) w w'
set_option maxRecDepth 100000 in
set_option maxHeartbeats 8000000 in
theorem nback_keep (h : NAt w0 o0 c i b s w o r) (f : Fr) (iA : Option Addr) (il ic : Nat) (dA : Option Addr) (dl dc : Nat) (now ms : Int) (hd : f.dst = i) (hk : f.kind = 4) (hp : s.synced = true → i ≠ 0 → s.p ≠ none) (hms : -30000 ≤ ms ∧ ms ≤ 30000) :
    Calls Tryz.prog 108 #[.pointer (some ⟨b, 0, none⟩), frV f (.slice iA il ic) (.slice dA dl dc), .int .i64 now, .int .i64 ms] w (PAV (backA i f now ms s) w o) := by
  obtain ⟨a, ha⟩ : ∃ a, a = backA i f now ms s := ⟨_, rfl⟩
  have ha2 : a = (if mayF (ackFr i s f now ms) then some (encF (ackFr i s f now ms)) else none) := by rw [ha]; unfold backA; rw [if_pos ⟨hd, .inr hk⟩]
  rw [← ha]
  obtain ⟨E, hE⟩ : ∃ E, E = syncE i s now := ⟨_, rfl⟩
  have hfr : ackFr i s f now ms = ⟨2, i, f.src, f.seq, [E, ⟨2, 0, 0, -ms, []⟩], []⟩ := by rw [hE]; rfl
  rw [hfr] at ha2
  have hEl : E.list = [] := by rw [hE]; rfl
  have HA := Lib.hid ha2
  unfold frV
  have hba := block_alloc w (.cells #[.int .i64 f.kind, .int .i64 f.src, .int .i64 f.dst, .int .i64 f.seq, .slice iA il ic, .slice dA dl dc] 71)
  have ga := Chg.alloc (fun _ => False) w (.cells #[.int .i64 f.kind, .int .i64 f.src, .int .i64 f.dst, .int .i64 f.seq, .slice iA il ic, .slice dA dl dc] 71)
  have HB := Lib.hid hba
  have H := Lib.hid (h.kept ga)
  have HG := Lib.hid ga
  have e1 : IntKind.i64.wrap (-ms) = -ms := IntWalk.i64_in _ (by omega)
  have HS := Lib.hid (fun W (g : Chg (fun _ => False) w W) => nsync_any (h.kept g) now hp)
  rw [← hE] at HS
  unfold elV at HS
  have HENC := Lib.hid (show ∀ W, Chg (fun _ => False) w W → Calls Tryz.prog 60 #[frV ⟨2, i, f.src, f.seq, [E, ⟨2, 0, 0, -ms, []⟩], []⟩ (.slice (some ⟨W.heap.size, 0, none⟩) 2 2) (.slice none 0 0)]
      (W.alloc (.cells #[.int .i64 E.kind, .int .i64 E.asn, .int .i64 E.rank, .int .i64 E.ticks, .slice none 0 0, .int .i64 2, .int .i64 0, .int .i64 0, .int .i64 (-ms), .slice none 0 0] 172)) (PEncF (W.alloc (.cells #[.int .i64 E.kind, .int .i64 E.asn, .int .i64 E.rank, .int .i64 E.ticks, .slice none 0 0, .int .i64 2, .int .i64 0, .int .i64 0, .int .i64 (-ms), .slice none 0 0] 172)) ⟨2, i, f.src, f.seq, [E, ⟨2, 0, 0, -ms, []⟩], []⟩) from
    fun W g => by
      have gz := h.z.more (Nat.le_trans g.size (Chg.alloc (fun _ => False) W (.cells #[.int .i64 E.kind, .int .i64 E.asn, .int .i64 E.rank, .int .i64 E.ticks, .slice none 0 0, .int .i64 2, .int .i64 0, .int .i64 0, .int .i64 (-ms), .slice none 0 0] 172)).size)
      refine fencode_any _ o gz _ _ _ (IeO.twoT (e := E) (f := ⟨2, 0, 0, -ms, []⟩) (getc2 _ _ _ _ _ _ _ _ _ _ 172 _ _ (block_alloc W _)) (h.z _ g.size) (by rw [hEl]; exact RV.nil _ _ _) (RV.nil _ _ _)) (BO.nil _ _) (by simp) (by simp) ?_
      intro e he
      simp at he
      rcases he with rfl | rfl
      · rw [hEl]; simp
      · simp)
  have HENC2 := Lib.hid (show ∀ W, Chg (fun _ => False) w W → Calls Tryz.prog 60 #[frV ⟨2, i, f.src, f.seq, [E, ⟨2, 0, 0, -ms, []⟩], []⟩ (.slice (some ⟨W.heap.size, 0, none⟩) 2 2) (.slice none 0 0)]
      (W.alloc (.cells #[.int .i64 E.kind, .int .i64 E.asn, .int .i64 E.rank, .int .i64 E.ticks, .slice none 0 0, .int .i64 2, .int .i64 0, .int .i64 0, .int .i64 (-ms), .slice none 0 0] 172)) (PEn a o (W.alloc (.cells #[.int .i64 E.kind, .int .i64 E.asn, .int .i64 E.rank, .int .i64 E.ticks, .slice none 0 0, .int .i64 2, .int .i64 0, .int .i64 0, .int .i64 (-ms), .slice none 0 0] 172))) from
    fun W g => (HENC.out W g).mono (fun en wq hpe => by
      have hA := HA.out
      rcases hpe with ⟨hm1, y, he, hown, gq⟩ | ⟨hm1, he, gq⟩
      · rw [if_pos hm1] at hA
        refine ⟨y, 0, he, ?_, gq⟩
        rw [hA]
        exact BO.of_own hown (encF_byte _ hm1 (by intro x hx; cases hx)) (fun k hk => h.z k (Nat.le_trans (Nat.le_trans g.size (Chg.alloc (fun _ => False) W _).size) hk))
      · rw [if_neg (by simp [hm1])] at hA
        refine ⟨_, 1, he, ?_, gq⟩
        rw [hA]; rfl))
  have HZ := Lib.hid h.z
  have t1 : (f.dst != (i : Int)) = false := by simp [hd]
  have t2 : (f.kind != 1) = true := by simp [hk]
  have t3 : (f.kind != 4) = false := by simp [hk]
  have t4 : (f.kind == 1) = false := by simp [hk]
  clear h hba ga ha ha2 hfr hE hEl hd hk
  unfold frV at HENC2
  clear HENC
  go_enter Tryz.func108, Tryz.ntmps108
  go_wp2_with fail
  generalize hW : w.alloc (.cells #[.int .i64 f.kind, .int .i64 f.src, .int .i64 f.dst, .int .i64 f.seq, .slice iA il ic, .slice dA dl dc] 71) = w1 at *
  obtain ⟨d0, d1, d2, d3, d4, d5⟩ := cell6 HB.out
  have c1 : w1.cell? ⟨b, 9, none⟩ = some (.int .i64 i) := H.out.cell 9
  obtain ⟨I, F1, hI, hF1, hFA⟩ := clsF w1
  have e0 := cellF hF1 d0
  have e2 := cellF hF1 d2
  have e3 := cellF hF1 c1
  have HFF := Lib.hid hF1
  have HFA := Lib.hid (hFA _ (Chg.drew _ _))
  clear hF1 hFA d0 d1 d2 d3 d4 d5 c1
  with_reducible refine wp_region_cls F1 (by kernel_rfl) (by kernel_rfl) HFA.out ?_
  repeat ((with_reducible refine wpQuiet_step (fun K hK => ?_)); go_simp; (try (rw [if_neg]; rotate_left; (intro h; cases h))); (with_reducible refine hK _ ?_); clear hK K)
  with_reducible refine wpQuiet_nil ?_
  intro _ hw'
  obtain ⟨nq, rfl⟩ := hw'
  have hgq := HFF.out nq
  have hbq : (F1 nq).heap[w.heap.size]? = _ := Chg.keep hgq HB.out (fun e => e)
  have HG2 := Lib.hid (HG.out.trans hgq)
  have H2 := Lib.hid (H.out.kept hgq)
  have HB2 := Lib.hid hbq
  clear e0 e2 e3 HFF HFA hI HB HG H hgq hbq hW
  generalize F1 nq = w2 at *
  have HBW := Lib.hid (show ∀ W, Chg (fun _ => False) w2 W → W.heap[w.heap.size]? = some (.cells #[.int .i64 f.kind, .int .i64 f.src, .int .i64 f.dst, .int .i64 f.seq, .slice iA il ic, .slice dA dl dc] 71 (0, 0)) ∧ W.cell? ⟨b, 9, none⟩ = some (.int .i64 i) from
    fun W g => ⟨Chg.keep g HB2.out (fun e => e), (H2.out.kept g).cell 9⟩)
  obtain ⟨d0, d1, d2, d3, d4, d5⟩ := cell6 HB2.out
  have c1 : w2.cell? ⟨b, 9, none⟩ = some (.int .i64 i) := H2.out.cell 9
  have HC := Lib.hid (Chg.refl (fun _ => False) w2)
  go_wp2_with fail
  have HSS := Lib.hid (show ∀ W, Chg (fun _ => False) w2 W → W.cell? ⟨b, 9, none⟩ = some (.int .i64 i) ∧ W.cell? ⟨w.heap.size, 1, none⟩ = some (.int .i64 f.src) ∧ W.cell? ⟨w.heap.size, 3, none⟩ = some (.int .i64 f.seq) from
    fun W g => by
      obtain ⟨h1, h2⟩ := HBW.out W g
      exact ⟨h2, by rw [cell_of_block h1]; rfl, by rw [cell_of_block h1]; rfl⟩)
  go_cut [9, 10] (fun t9 t10 wx => ∃ y, t9 = y ∧ AV a y wx o ∧ Chg (fun _ => False) w wx ∧ Chg (fun _ => False) w2 wx)
  case first =>
    go_region_held3 (fun W => W.cell? ⟨b, 9, none⟩ = some (.int .i64 i) ∧ W.cell? ⟨w.heap.size, 1, none⟩ = some (.int .i64 f.src) ∧ W.cell? ⟨w.heap.size, 3, none⟩ = some (.int .i64 f.seq))
      (((with_reducible refine HSS.out _ ?_); repeat (first | with_reducible exact Chg.drew _ _ | with_reducible exact HGX.out | with_reducible exact HGW.out | (with_reducible refine Chg.trans ?_ (Chg.alloc _ _ _)))))
      (first
      | (go_at_call 95; refine (HS.out _ (HG2.out.trans (Chg.drew _ w2))).mono ?_; rintro en wp ⟨rfl, gp⟩
         have HGW := Lib.hid ((Chg.drew _ w2).trans gp))
      | (go_at_call 60; refine (HENC2.out _ (HG2.out.trans HGW.out)).mono ?_; rintro en wq ⟨y, er, rfl, hay, gq⟩
         have HGX := Lib.hid (HGW.out.trans ((Chg.alloc _ wp _).trans gq))))
    all_goals
      go_wp2_with fail
      go_meet
      exact ⟨y, rfl, hay, HG2.out.trans HGX.out, HGX.out⟩
  case rest =>
    obtain ⟨y, rfl, hy, hg, hg2⟩ := hcut
    obtain ⟨hb3, _⟩ := HBW.out _ hg2
    obtain ⟨d0, d1, d2, d3, d4, d5⟩ := cell6 hb3
    have HY := Lib.hid (And.intro hy hg)
    clear hy hg hg2 hb3
    go_wp2_with fail
    go_ret
    exact ⟨_, rfl, HY.out⟩
end
end Go.Proofs.YtnpihllannobgaaGreatDoor
namespace Go.Proofs.YtnpihllannobgaaGreatDoor
set_option linter.unusedVariables false
set_option linter.unusedSimpArgs false
open Go.ChangeShapes Go.WideShapes Go.ChangeAt Go.RowKit

theorem bitW_is0 (near lost : Int) (n0 : 0 ≤ near) (n1 : near < 18446744073709551616) (l0 : 0 ≤ lost) (l1 : lost < 18446744073709551616) (j : Nat) (hj : j < 64) :
    (bits BinOp.and IntKind.u64 (bits BinOp.andNot IntKind.u64 near lost / 2 ^ j) 1 == 0) = !bitW near lost j := by
  have h := bitW_is near lost n0 n1 l0 l1 j hj
  rw [← h]
  obtain ⟨A, rfl⟩ := Int.eq_ofNat_of_zero_le n0
  obtain ⟨B, rfl⟩ := Int.eq_ofNat_of_zero_le l0
  have h1 : A &&& (18446744073709551615 - B) ≤ A := Nat.and_le_left
  rw [u64_andNot_nat A B (by omega) (by omega)]
  generalize A &&& (18446744073709551615 - B) = N at *
  have e : ((N : Int) / 2 ^ j) = ((N / 2 ^ j : Nat) : Int) := by push_cast; rfl
  have hl : N / 2 ^ j ≤ N := Nat.div_le_self _ _
  rw [e]
  generalize N / 2 ^ j = q at *
  rw [and_one_u64 _ (by omega) (by omega)]
  by_cases h : (q : Int) % 2 = 0
  · simp [h]
  · have : (q : Int) % 2 = 1 := by omega
    simp [this]
section
variable {w0 w w' : World} {o0 o o' : Cls} {c : Cfg} {W : Nat} {x x' : WM} {asn : Int} {r r' : WR} {d : Dr} {dr lo ac er da : Value} {S : Nat → Prop}
theorem Bk.val {v : Value} {back : List (Option (List Int))} (h : Bk w o v back) (hn : 0 < back.length) : ∃ g cap, v = .slice (some ⟨g, 0, none⟩) back.length cap ∧ ∀ i, i < back.length → ∃ A n cp, w.cell? ⟨g, i, none⟩ = some (.slice A n cp) ∧ AV (back.getD i none) (.slice A n cp) w o := by
  obtain ⟨vs, h1, h2, h3, h4⟩ := h
  rw [h3] at h1
  obtain ⟨g, cap, cur, e, _⟩ := own_pos h1 hn
  subst e
  refine ⟨g, cap, rfl, fun i hi => ?_⟩
  obtain ⟨u, hu⟩ : ∃ u, vs[i]? = some u := ⟨_, List.getElem?_eq_getElem (by omega)⟩
  obtain ⟨a, ha⟩ : ∃ a, back[i]? = some a := ⟨_, List.getElem?_eq_getElem hi⟩
  have hav := h4 i a u ha hu
  have e : back.getD i none = a := by rw [List.getD_eq_getElem?_getD, ha]; rfl
  obtain ⟨A, n, cp, e2⟩ : ∃ A n cp, u = .slice A n cp := by
    cases a with
    | none => exact ⟨_, _, _, hav⟩
    | some l => obtain ⟨⟨A, cp, e, _⟩, _⟩ := hav; exact ⟨_, _, _, e⟩
  subst e2
  exact ⟨A, n, cp, own_cell h1 i _ hu, by rw [e]; exact hav⟩
set_option maxRecDepth 100000 in
set_option maxHeartbeats 8000000 in
theorem wanswer_any (hc : CfgOk c) (h : WAt w0 o0 c W x asn w o r) (k i' t : Int) (hs : So w o d dr lo ac er da) (bv kv : Value) (L : List Int) (hbv : BO w o bv L) (hL : L.length ≤ 100000) (i : Nat) (hi : i < c.nodes) (hLx : L = (x.snd i).2.1) (hbk : Bk w o kv x.back) (hkl : x.back.length = c.nodes) :
    Calls Tryz.prog 37 #[VP W, stpV k i' t dr lo ac er da, .int .i64 i, bv, kv] w (PAV (answerW c d x i) w o) := by
  have hn0 := hc.n0
  have hn1 := hc.n1
  have HSO := Lib.hid hs
  obtain ⟨dA, dc, hdr, _⟩ := hs.drift
  obtain ⟨lA, lc, hlo, _⟩ := hs.lost
  obtain ⟨aA, acp, hac, _⟩ := hs.acks
  obtain ⟨eA, ec, her, _⟩ := hs.err
  obtain ⟨xA, xn, xc, hda⟩ := hs.da
  obtain ⟨dn, hdn⟩ : ∃ n, n = d.drift.length := ⟨_, rfl⟩
  obtain ⟨ln, hln⟩ : ∃ n, n = d.lost.length := ⟨_, rfl⟩
  obtain ⟨an, han⟩ : ∃ n, n = d.acks.length := ⟨_, rfl⟩
  obtain ⟨en, hen⟩ : ∃ n, n = d.err.length := ⟨_, rfl⟩
  rw [← hdn] at hdr
  rw [← hln] at hlo
  rw [← han] at hac
  rw [← hen] at her
  subst hdr hlo hac her hda
  obtain ⟨kg, kcap, hkv, hkat⟩ := hbk.val (by omega)
  rw [hkl] at hkv hkat
  subst hkv
  have H := Lib.hid h
  have HK := Lib.hid hkat
  have HBK := Lib.hid hbk
  have HKL := Lib.hid hkl
  obtain ⟨⟨bA, bc, hbe, _⟩, _⟩ := id hbv
  obtain ⟨bl, hbl⟩ : ∃ n, n = L.length := ⟨_, rfl⟩
  rw [← hbl] at hbe
  subst hbe
  have ga := Chg.alloc (fun _ => False) w (.cells #[.int .i64 k, .int .i64 i', .int .i64 t, .slice dA dn dc, .slice lA ln lc, .slice aA an acp, .slice eA en ec, .slice xA xn xc] 35)
  have hba := block_alloc w (.cells #[.int .i64 k, .int .i64 i', .int .i64 t, .slice dA dn dc, .slice lA ln lc, .slice aA an acp, .slice eA en ec, .slice xA xn xc] 35)
  have HB := Lib.hid (And.intro hba ga)
  have HD := Lib.hid (fdecode_any _ (.slice bA bl bc) L (hbv.keep ga (fun _ _ e => e)).bs hL)
  obtain ⟨nA, ncap, hnv, hnr, _⟩ := h.wd.near
  have hnear := hc.near
  have hnb := hc.nearb
  rw [hnear] at hnv hnr
  have HNR := Lib.hid (And.intro hnv hnr)
  obtain ⟨np, z, hnp, hz, hzc⟩ := hnr.at hi
  subst hnp
  obtain ⟨z0, z1, _, _⟩ := hnb i z hz
  have hza : atL c.near i = z := by unfold atL; rw [List.getD_eq_getElem?_getD, hz]; rfl
  obtain ⟨sl, hsl⟩ : ∃ sl, sl = atL d.acks i := ⟨_, rfl⟩
  have hslb : 0 ≤ sl ∧ sl < 18446744073709551616 := by
    rw [hsl]; unfold atL; rw [List.getD_eq_getElem?_getD]
    cases hh : d.acks[i]? with
    | none => simp
    | some y => exact HSO.out.ab y (List.mem_of_getElem? hh)
  have i1 : (i : Int) < (c.nodes : Int) := by omega
  obtain ⟨X, hX⟩ : ∃ X, X = decF L := ⟨_, rfl⟩
  rw [← hX] at HD
  have hcs : (X.1 = 0 ∧ mayF X.2 = true) ∨ (X.1 ≠ 0 ∧ X.2 = fr0) := by rw [hX]; exact decF_cases L
  obtain ⟨a, ha⟩ : ∃ a, a = answerW c d x i := ⟨_, rfl⟩
  have ha2 : a = (if X.1 == 0 && inR X.2.dst 0 ((c.nodes : Int) - 1) && bitW z sl X.2.dst.toNat then x.back.getD X.2.dst.toNat none else none) := by
    rw [ha, hX, hLx, ← hza, hsl]; rfl
  rw [← ha]
  have HA := Lib.hid ha2
  obtain ⟨e, f⟩ := X
  dsimp only at HA HD hcs
  have HCS := Lib.hid hcs
  have HZ := Lib.hid h.z
  have HSL := Lib.hid hsl
  have HZC := Lib.hid hzc
  have HC := Lib.hid hc
  clear h hs hdn hln han hen ga hba hnv hnr hnear hnb hz hza hsl hX ha ha2 hcs hbv hL hbl hLx hbk hkl hkat hzc
  unfold VP stpV
  go_enter Tryz.func37, Tryz.ntmps37
  go_wp2_with fail
  generalize w.alloc (.cells #[.int .i64 k, .int .i64 i', .int .i64 t, .slice dA dn dc, .slice lA ln lc, .slice aA an acp, .slice eA en ec, .slice xA xn xc] 35) = w1 at *
  obtain ⟨sb, hsb⟩ : ∃ sb, sb = w.heap.size := ⟨_, rfl⟩
  rw [← hsb] at HB ⊢
  clear hsb
  (with_reducible refine HD.out.mono ?_)
  rintro en2 w2 ⟨iv, dv, rfl, hI, hDD, hG⟩
  obtain ⟨iA, ic, hiv⟩ := (hI o (HZ.out.more HB.out.2.size)).val
  obtain ⟨⟨ddA, ddc, hdv, _⟩, _⟩ := hDD o (HZ.out.more HB.out.2.size)
  obtain ⟨il, hil⟩ : ∃ n, n = f.ies.length := ⟨_, rfl⟩
  obtain ⟨dl, hdl⟩ : ∃ n, n = f.data.length := ⟨_, rfl⟩
  dsimp only at hiv hdv
  rw [← hil] at hiv
  rw [← hdl] at hdv
  subst hiv hdv
  have HG2 := Lib.hid (HB.out.2.trans hG)
  have hb2 := Chg.keep hG HB.out.1 (fun e => e)
  have HB2 := Lib.hid hb2
  clear hI hDD hG HD hil hdl hb2
  unfold frV
  go_wp2_with fail
  have ga3 := Chg.alloc (fun _ => False) w2 (.cells #[.int .i64 f.kind, .int .i64 f.src, .int .i64 f.dst, .int .i64 f.seq, .slice iA il ic, .slice ddA dl ddc] 71)
  have HB3 := Lib.hid (And.intro (block_alloc w2 (.cells #[.int .i64 f.kind, .int .i64 f.src, .int .i64 f.dst, .int .i64 f.seq, .slice iA il ic, .slice ddA dl ddc] 71)) (And.intro (Chg.keep ga3 HB2.out (fun e => e)) (HG2.out.trans ga3)))
  clear ga3
  generalize w2.alloc (.cells #[.int .i64 f.kind, .int .i64 f.src, .int .i64 f.dst, .int .i64 f.seq, .slice iA il ic, .slice ddA dl ddc] 71) = w3 at *
  obtain ⟨fb, hfb⟩ : ∃ fb, fb = w2.heap.size := ⟨_, rfl⟩
  rw [← hfb] at HB3 ⊢
  clear hfb
  --REST
  have HC71 := Lib.hid (show ∀ WX, Chg (fun _ => False) w3 WX → Calls Tryz.prog 71 #[.slice aA an acp, .int .i64 i] WX (PV0 (.int .u64 sl) WX) from fun WX g => by
    have := at71_any (w := WX) (o := o) (.slice aA an acp) d.acks i (HSO.out.acks.keep (S := fun _ => False) (HB3.out.2.2.trans g) (fun _ _ e => e))
    rw [← HSL.out] at this
    exact this)
  have HC22 := Lib.hid (show ∀ WX, Chg (fun _ => False) w3 WX → ∀ q, Calls Tryz.prog 22 #[.pointer (some ⟨W, 0, none⟩), .int .i64 q] WX (PV0 (.bool (inR q 0 ((c.nodes : Int) - 1))) WX) from fun WX g q => whas_any (H.out.kept hn1 (HB3.out.2.2.trans g)) (by omega) q)
  have HFB := Lib.hid (show ∀ WX, Chg (fun _ => False) w3 WX → WX.cell? ⟨fb, 2, none⟩ = some (.int .i64 f.dst) ∧ WX.cell? ⟨W, 1, none⟩ = some (.slice (some np) c.nodes ncap) ∧ WX.cell? (np.add i) = some (.int .u64 z) ∧ WX.cell? ⟨sb, 5, none⟩ = some (.slice aA an acp) from fun WX g => by
    have gw := HB3.out.2.2.trans g
    have hw := H.out.kept hn1 gw
    have hc1 := HZC.out
    unfold VU at hc1
    have ks := Chg.keep g HB3.out.2.1 (fun e => e)
    have kf := Chg.keep g HB3.out.1 (fun e => e)
    exact ⟨by rw [cell_of_block kf]; rfl, by rw [← HNR.out.1]; exact hw.cell 1, by rw [gw.cell (lt_of_cell hc1) (fun e => e), hc1], by rw [cell_of_block ks]; rfl⟩)
  have HGX := Lib.hid (Chg.refl (fun _ => False) w3)
  by_cases he : e = 0
  · have t1 : (e != 0) = false := by simp [he]
    have HE0 := Lib.hid he
    obtain ⟨q, hq⟩ : ∃ q : Nat, f.dst = (q : Int) := by
      rcases HCS.out with ⟨_, hm⟩ | ⟨hne, _⟩
      · obtain ⟨_, _, _, _, _, h6, _⟩ := mayF_of hm
        exact Int.eq_ofNat_of_zero_le h6
      · exact absurd he hne
    have HQ := Lib.hid hq
    have hA2 := HA.out
    rw [hq, he, Int.toNat_natCast] at hA2
    have HA := Lib.hid hA2
    clear he hq hA2
    by_cases hr : inR (q : Int) 0 ((c.nodes : Int) - 1) = true
    · have HB1 := Lib.hid hr
      have hqn : q < c.nodes := by simp only [inR, Bool.and_eq_true, decide_eq_true_eq] at hr; omega
      have iq : (q : Int) < (c.nodes : Int) := by omega
      have hbw := bitW_is0 z sl z0 (by omega) hslb.1 hslb.2 q (by omega)
      obtain ⟨B2, hB2⟩ : ∃ B, B = bitW z sl q := ⟨_, rfl⟩
      rw [← hB2] at hbw HA
      clear hB2 hr
      cases B2 with
      | false =>
        obtain ⟨I, F1, hI, hF1, hFA⟩ := clsF w3
        have HFF := Lib.hid hF1
        obtain ⟨f1, f2, f3, f4⟩ := HFB.out w3 HGX.out
        rw [HQ.out] at f1
        have k1 := cellF hF1 f1
        have k2 := cellF hF1 f2
        have k3 := cellF hF1 f3
        have k4 := cellF hF1 f4
        have HD22 := Lib.hid (show ∀ n, Calls Tryz.prog 22 #[.pointer (some ⟨W, 0, none⟩), .int .i64 (q : Int)] (F1 n) (fun e w' => e = .returned (.bool true) ∧ ∃ m, w' = F1 m) from fun n => (by have := HC22.out (F1 n) (HGX.out.trans (hF1 n)) (q : Int); rw [HB1.out] at this; exact this.mono (fun e w' ⟨h1, h2⟩ => ⟨h1, n, h2⟩)))
        have HD71 := Lib.hid (show ∀ n, Calls Tryz.prog 71 #[.slice aA an acp, .int .i64 i] (F1 n) (fun e w' => e = .returned (.int .u64 sl) ∧ ∃ m, w' = F1 m) from fun n => (HC71.out (F1 n) (HGX.out.trans (hF1 n))).mono (fun e w' ⟨h1, h2⟩ => ⟨h1, n, h2⟩))
        have HFA := Lib.hid (hFA _ (Chg.drew _ _))
        clear hF1 hFA f1 f2 f3 f4
        with_reducible refine wp_region_cls F1 (by kernel_rfl) (by kernel_rfl) HFA.out ?_
        repeat ((with_reducible refine wpQuiet_step (fun K hK => ?_)); go_simp; (try (rw [if_neg]; rotate_left; (intro h; cases h))); first | ((with_reducible refine hK _ ?_); clear hK K) | (apply Exists.intro; (with_reducible refine ⟨fun _ => ?_, hK _ ?_⟩); (first | exact HD22.out _ | exact HD71.out _); clear hK K))
        with_reducible refine wpQuiet_nil ?_
        intro _ hw'
        obtain ⟨nq, rfl⟩ := hw'
        have HGX := Lib.hid (HGX.out.trans (HFF.out nq))
        clear HFF HFA hI k1 k2 k3 k4 HD22 HD71
        generalize F1 nq = w4 at *
        go_wp2_with fail
        go_ret
        have ha := HA.out
        rw [if_neg (by simp)] at ha
        rw [ha]
        exact ⟨_, rfl, rfl, HB3.out.2.2.trans HGX.out⟩
      | true =>
        obtain ⟨I, F1, hI, hF1, hFA⟩ := clsF w3
        have HFF := Lib.hid hF1
        obtain ⟨f1, f2, f3, f4⟩ := HFB.out w3 HGX.out
        rw [HQ.out] at f1
        have k1 := cellF hF1 f1
        have k2 := cellF hF1 f2
        have k3 := cellF hF1 f3
        have k4 := cellF hF1 f4
        have HD22 := Lib.hid (show ∀ n, Calls Tryz.prog 22 #[.pointer (some ⟨W, 0, none⟩), .int .i64 (q : Int)] (F1 n) (fun e w' => e = .returned (.bool true) ∧ ∃ m, w' = F1 m) from fun n => (by have := HC22.out (F1 n) (HGX.out.trans (hF1 n)) (q : Int); rw [HB1.out] at this; exact this.mono (fun e w' ⟨h1, h2⟩ => ⟨h1, n, h2⟩)))
        have HD71 := Lib.hid (show ∀ n, Calls Tryz.prog 71 #[.slice aA an acp, .int .i64 i] (F1 n) (fun e w' => e = .returned (.int .u64 sl) ∧ ∃ m, w' = F1 m) from fun n => (HC71.out (F1 n) (HGX.out.trans (hF1 n))).mono (fun e w' ⟨h1, h2⟩ => ⟨h1, n, h2⟩))
        have HFA := Lib.hid (hFA _ (Chg.drew _ _))
        clear hF1 hFA f1 f2 f3 f4
        with_reducible refine wp_region_cls F1 (by kernel_rfl) (by kernel_rfl) HFA.out ?_
        repeat ((with_reducible refine wpQuiet_step (fun K hK => ?_)); go_simp; (try (rw [if_neg]; rotate_left; (intro h; cases h))); first | ((with_reducible refine hK _ ?_); clear hK K) | (apply Exists.intro; (with_reducible refine ⟨fun _ => ?_, hK _ ?_⟩); (first | exact HD22.out _ | exact HD71.out _); clear hK K))
        with_reducible refine wpQuiet_nil ?_
        intro _ hw'
        obtain ⟨nq, rfl⟩ := hw'
        have HGX := Lib.hid (HGX.out.trans (HFF.out nq))
        clear HFF HFA hI k1 k2 k3 k4 HD22 HD71
        generalize F1 nq = w4 at *
        obtain ⟨f1, _⟩ := HFB.out w4 HGX.out
        rw [HQ.out] at f1
        have gw := HB3.out.2.2.trans HGX.out
        obtain ⟨yA, yn, ycp, hyc, hya⟩ := HK.out q hqn
        have hyc2 : w4.cell? ⟨kg, q, none⟩ = some (.slice yA yn ycp) := by rw [gw.cell (lt_of_cell hyc) (fun e => e), hyc]
        have HY := Lib.hid (And.intro (hya.step (Ext.refl _ _) gw (fun _ _ e => e)) gw)
        clear hyc hya gw
        go_wp2_with fail
        go_ret
        have ha := HA.out
        rw [HB1.out, if_pos (by simp)] at ha
        rw [ha]
        exact ⟨_, rfl, HY.out⟩
    · have hr : inR (q : Int) 0 ((c.nodes : Int) - 1) = false := by simpa using hr
      have HB1 := Lib.hid hr
      clear hr
      obtain ⟨I, F1, hI, hF1, hFA⟩ := clsF w3
      have HFF := Lib.hid hF1
      obtain ⟨f1, f2, f3, f4⟩ := HFB.out w3 HGX.out
      rw [HQ.out] at f1
      have k1 := cellF hF1 f1
      have k2 := cellF hF1 f2
      have k3 := cellF hF1 f3
      have k4 := cellF hF1 f4
      have HD22 := Lib.hid (show ∀ n, Calls Tryz.prog 22 #[.pointer (some ⟨W, 0, none⟩), .int .i64 (q : Int)] (F1 n) (fun e w' => e = .returned (.bool false) ∧ ∃ m, w' = F1 m) from fun n => (by have := HC22.out (F1 n) (HGX.out.trans (hF1 n)) (q : Int); rw [HB1.out] at this; exact this.mono (fun e w' ⟨h1, h2⟩ => ⟨h1, n, h2⟩)))
      have HFA := Lib.hid (hFA _ (Chg.drew _ _))
      clear hF1 hFA f1 f2 f3 f4
      with_reducible refine wp_region_cls F1 (by kernel_rfl) (by kernel_rfl) HFA.out ?_
      repeat ((with_reducible refine wpQuiet_step (fun K hK => ?_)); go_simp; (try (rw [if_neg]; rotate_left; (intro h; cases h))); first | ((with_reducible refine hK _ ?_); clear hK K) | (apply Exists.intro; (with_reducible refine ⟨fun _ => ?_, hK _ ?_⟩); (first | exact HD22.out _); clear hK K))
      with_reducible refine wpQuiet_nil ?_
      intro _ hw'
      obtain ⟨nq, rfl⟩ := hw'
      have HGX := Lib.hid (HGX.out.trans (HFF.out nq))
      clear HFF HFA hI k1 k2 k3 k4 HD22
      generalize F1 nq = w4 at *
      go_wp2_with fail
      go_ret
      have ha := HA.out
      rw [if_neg (by rw [HB1.out]; simp)] at ha
      rw [ha]
      exact ⟨_, rfl, rfl, HB3.out.2.2.trans HGX.out⟩
  · have t1 : (e != 0) = true := by simpa using he
    have HE0 := Lib.hid he
    obtain ⟨I, F1, hI, hF1, hFA⟩ := clsF w3
    have HFF := Lib.hid hF1
    obtain ⟨f1, f2, f3, f4⟩ := HFB.out w3 HGX.out
    have k1 := cellF hF1 f1
    have k2 := cellF hF1 f2
    have k3 := cellF hF1 f3
    have k4 := cellF hF1 f4
    have HFA := Lib.hid (hFA _ (Chg.drew _ _))
    clear hF1 hFA f1 f2 f3 f4
    with_reducible refine wp_region_cls F1 (by kernel_rfl) (by kernel_rfl) HFA.out ?_
    repeat ((with_reducible refine wpQuiet_step (fun K hK => ?_)); go_simp; (try (rw [if_neg]; rotate_left; (intro h; cases h))); first | ((with_reducible refine hK _ ?_); clear hK K) | (apply Exists.intro; (with_reducible refine ⟨fun _ => ?_, hK _ ?_⟩); (exact False.elim (by assumption)); clear hK K))
    with_reducible refine wpQuiet_nil ?_
    intro _ hw'
    obtain ⟨nq, rfl⟩ := hw'
    have HGX := Lib.hid (HGX.out.trans (HFF.out nq))
    clear HFF HFA hI k1 k2 k3 k4
    generalize F1 nq = w4 at *
    go_wp2_with fail
    go_ret
    have ha := HA.out
    rw [if_neg (by have := HE0.out; simp [this])] at ha
    rw [ha]
    exact ⟨_, rfl, rfl, HB3.out.2.2.trans HGX.out⟩
end
end Go.Proofs.YtnpihllannobgaaGreatDoor
