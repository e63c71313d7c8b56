/-
  The laws' own questions: are these a text's lines; is that the number of a mark; the chapter's examples.
-/
import Derived.Test.YtbkgcikhiomenaaLexLaw
import Derived.Test.YtbkgcikhiomenaaLexApp
import Derived.Test.YtbkgcikhiomenaaNumDec
namespace Go.Proofs.Ytbkgcikhiomenaa
set_option linter.unusedVariables false
set_option linter.unusedSimpArgs false
open Go.ChangeShapes Go.WideShapes Go.ChangeAt Go.RowKit

theorem data_lns' (rows : List LnR) : rows.map LnR.data = (lns rows).map (List.map toL) := by unfold lns; rw [List.map_map]; rfl
theorem at_block {w : World} {g : Nat} {xs : List ByteArray} {cs : Array Value} {t : TypeId} {fr : Nat × Nat} (hb : w.heap[g]? = some (.cells cs t fr)) (hcs : cs = (xs.map Value.string).toArray) (hl : xs.length ≤ 1000000) : (⟨some ⟨g, 0, none⟩, xs.length, xs⟩ : LnR).At w := by
  subst hcs
  refine ⟨⟨Nat.le_refl _, by unfold maxLen; show xs.length ≤ _; omega, fun e => by cases e⟩, fun hn => ⟨g, 0, rfl, Nat.zero_le _, (Array.getElem?_eq_some_iff.1 hb).1, fun i hi j hj => ?_⟩⟩
  obtain rfl : j = 0 := by omega
  rw [cell_of_row w g _ _ t fr hb]
  have hi2 : i < xs.length := hi
  rw [show 0 + i * 1 + 0 = i by omega, List.getElem?_toArray, List.getElem?_map, List.getElem?_eq_getElem hi2]
  show _ = some (Value.string (xs.getD i ⟨#[]⟩))
  rw [List.getD_eq_getElem?_getD, List.getElem?_eq_getElem hi2]
  rfl
theorem lines_block {w : World} {g : Nat} {rows : List LnR} {cs : Array Value} {t : TypeId} {fr : Nat × Nat} (hb : w.heap[g]? = some (.cells cs t fr)) (hcs : cs = (rows.map LnR.cell).toArray) (hl : rows.length ≤ 1000000) (hr : ∀ r ∈ rows, r.At w) : LinesAt w (some ⟨g, 0, none⟩) rows.length rows := by
  subst hcs
  refine ⟨⟨Nat.le_refl _, by unfold maxLen; omega, fun e => by cases e⟩, fun hn => ⟨g, 0, rfl, Nat.zero_le _, (Array.getElem?_eq_some_iff.1 hb).1, fun i hi j hj => ?_⟩, hr⟩
  obtain rfl : j = 0 := by omega
  rw [cell_of_row w g _ _ t fr hb]
  rw [show 0 + i * 1 + 0 = i by omega, List.getElem?_toArray, List.getElem?_map, List.getElem?_eq_getElem hi]
  show _ = some (rows.getD i default).cell
  rw [List.getD_eq_getElem?_getD, List.getElem?_eq_getElem hi]
  rfl
theorem lines_none (w : World) : LinesAt w none 0 [] := ⟨⟨Nat.le_refl _, by unfold maxLen; omega, fun _ => ⟨rfl, rfl⟩⟩, fun h => absurd h (Nat.lt_irrefl 0), fun r h => by cases h⟩
set_option maxRecDepth 100000 in
theorem are_any {w : World} (s : ByteArray) (hs : s.size ≤ 20000) {A : Option Addr} {c : Nat} {rows : List LnR} (h : LinesAt w A c rows) (b : Bool) (hb : decide (linesP (toL s) = some (rows.map LnR.data)) = b) :
    Calls Try.prog 14 #[.string s, .slice A rows.length c] w fun e w' => e = .returned (.bool b) ∧ Below w.heap.size w w' := by
  have HX := Lib.hid h
  have HSZ := Lib.hid hs
  have HBB := Lib.hid hb
  clear h hs hb
  cases ho : linesP (toL s) with
  | none =>
    have HO := Lib.hid ho
    have HB0 : Hid (b = false) := Lib.hid (by rw [← HBB.out, ho]; rfl)
    have HEO : Hid (errL none = 4) := Lib.hid rfl
    clear ho
    go_enter Try.func14, Try.ntmps14
    go_wp2_with (first
      | (go_at_call 8; refine (plines_any s HSZ.out _).mono ?_; intro e w1 hl; rw [HO.out] at hl; obtain ⟨A, c, rs, rfl, hown, hrw, hb1⟩ := hl.form; rw [HEO.out]; have HL := Lib.hid hl; have HW := Lib.hid hown; have HB := Lib.hid hb1; clear hl hown hb1))
    go_ret
    exact ⟨ret_bool HB0.out.symm, HB.out⟩
  | some m =>
    have HO := Lib.hid ho
    have HEO : Hid (errL (some m) = 0) := Lib.hid rfl
    clear ho
    go_enter Try.func14, Try.ntmps14
    go_wp2_with (first
      | (go_at_call 8; refine (plines_any s HSZ.out _).mono ?_; intro e w1 hl; rw [HO.out] at hl; obtain ⟨A, c, rs, rfl, hown, hrw, hb1⟩ := hl.form; rw [HEO.out]; have HL := Lib.hid hl; have HW := Lib.hid hown; have HB := Lib.hid hb1; have HRW := Lib.hid hrw; clear hl hown hb1 hrw)
      | (go_at_call 12; refine (rsamel_any HW.out.at_ (HX.out.on HB.out)).mono ?_; rintro e w2 ⟨rfl, hb2⟩; have HB2 := Lib.hid hb2; clear hb2; have HQ : Hid (decide (lns rs = lns rows) = b) := Lib.hid (by
          rw [← HBB.out, HO.out]
          have h1 : rs.map LnR.data = m := HRW.out.out
          rw [Bool.eq_iff_iff, decide_eq_true_eq, decide_eq_true_eq, Option.some.injEq]
          exact ⟨fun e => by rw [← h1, data_lns', data_lns', e], fun e => lns_data (h1.trans e)⟩); rw [HQ.out]))
    go_ret
    exact ⟨rfl, HB.out.trans (HB2.out.mono HB.out.size)⟩
def rb : UInt8 := 114
theorem mark_is (s : ByteArray) (n er : Int) (ht : Told (s.data.toList.drop 1) n er) (want : Int) (b : Bool) (hb : ((markOf s.data.toList 114 n er).2 == 0 && (markOf s.data.toList 114 n er).1 == want) = b) (w : World) :
    Calls Try.prog 19 #[.string s, .int .i64 want] w fun e w' => e = .returned (.bool b) ∧ Below w.heap.size w w' := by
  have HC := Lib.hid (pmark_any s 114 n er ht w)
  obtain ⟨v, hv⟩ : ∃ v, (markOf s.data.toList 114 n er).1 = v := ⟨_, rfl⟩
  obtain ⟨q, hq⟩ : ∃ q, (markOf s.data.toList 114 n er).2 = q := ⟨_, rfl⟩
  rw [hv, hq] at HC hb
  clear hv hq ht
  cases hq0 : q == 0 with
  | false =>
    rw [hq0] at hb
    have HB0 : Hid (b = false) := Lib.hid hb.symm
    clear hb
    go_enter Try.func19, Try.ntmps19
    go_wp2_with (first
      | (go_at_call 10; refine HC.out.mono ?_; rintro e w1 ⟨rfl, hb1⟩; have HB := Lib.hid hb1; clear hb1))
    go_ret
    exact ⟨ret_bool HB0.out.symm, HB.out⟩
  | true =>
    obtain rfl : q = 0 := beq_iff_eq.1 hq0
    have HB0 : Hid ((v == want) = b) := Lib.hid hb
    clear hb hq0
    go_enter Try.func19, Try.ntmps19
    go_wp2_with (first
      | (go_at_call 10; refine HC.out.mono ?_; rintro e w1 ⟨rfl, hb1⟩; have HB := Lib.hid hb1; clear hb1))
    go_ret
    exact ⟨ret_bool HB0.out, HB.out⟩
theorem none_is (s : ByteArray) (n er : Int) (ht : Told (s.data.toList.drop 1) n er) (b : Bool) (hb : ((markOf s.data.toList 114 n er).2 == 10 && (markOf s.data.toList 114 n er).1 == 0) = b) (w : World) :
    Calls Try.prog 18 #[.string s] w fun e w' => e = .returned (.bool b) ∧ Below w.heap.size w w' := by
  have HC := Lib.hid (pmark_any s 114 n er ht w)
  obtain ⟨v, hv⟩ : ∃ v, (markOf s.data.toList 114 n er).1 = v := ⟨_, rfl⟩
  obtain ⟨q, hq⟩ : ∃ q, (markOf s.data.toList 114 n er).2 = q := ⟨_, rfl⟩
  rw [hv, hq] at HC hb
  clear hv hq ht
  cases hq0 : q == 10 with
  | false =>
    rw [hq0] at hb
    have HB0 : Hid (b = false) := Lib.hid hb.symm
    clear hb
    go_enter Try.func18, Try.ntmps18
    go_wp2_with (first
      | (go_at_call 10; refine HC.out.mono ?_; rintro e w1 ⟨rfl, hb1⟩; have HB := Lib.hid hb1; clear hb1))
    go_ret
    exact ⟨ret_bool HB0.out.symm, HB.out⟩
  | true =>
    obtain rfl : q = 10 := beq_iff_eq.1 hq0
    have HB0 : Hid ((v == 0) = b) := Lib.hid hb
    clear hb hq0
    go_enter Try.func18, Try.ntmps18
    go_wp2_with (first
      | (go_at_call 10; refine HC.out.mono ?_; rintro e w1 ⟨rfl, hb1⟩; have HB := Lib.hid hb1; clear hb1))
    go_ret
    exact ⟨ret_bool HB0.out, HB.out⟩
def exA : ByteArray := ⟨#[97]⟩
def exB : ByteArray := ⟨#[98]⟩
def exD : ByteArray := ⟨#[100]⟩
theorem alive_lines : linesP (toL ⟨#[97, 32, 32, 98, 32, 35, 32, 99, 10, 35, 10, 9, 100]⟩) = some [[[97], [98]], [[100]]] := by decide
theorem heap_at (w : World) (o : Obj) (g : Nat) (h : w.heap.size = g) : (w.alloc o).heap[g]? = some o := by rw [← h]; exact heap_alloc_new w o
theorem heap_back {w : World} {o x : Obj} {g : Nat} (h : w.heap[g]? = some x) : (w.alloc o).heap[g]? = some x := by
  have hl := (Array.getElem?_eq_some_iff.1 h).1
  show (w.heap.push o)[g]? = some x
  rw [Array.getElem?_push, if_neg (Nat.ne_of_lt hl), h]
theorem alive_want (w : World) : LinesAt (((w.alloc (.cells #[.string ⟨#[97]⟩, .string ⟨#[98]⟩] 9)).alloc (.cells #[.string ⟨#[100]⟩] 9)).alloc (.cells #[.slice (some ⟨w.heap.size, 0, none⟩) 2 2, .slice (some ⟨w.heap.size + 1, 0, none⟩) 1 1] 39)) (some ⟨w.heap.size + 1 + 1, 0, none⟩) 2 [⟨some ⟨w.heap.size, 0, none⟩, 2, [⟨#[97]⟩, ⟨#[98]⟩]⟩, ⟨some ⟨w.heap.size + 1, 0, none⟩, 1, [⟨#[100]⟩]⟩] := by
  refine lines_block (rows := [⟨some ⟨w.heap.size, 0, none⟩, 2, [⟨#[97]⟩, ⟨#[98]⟩]⟩, ⟨some ⟨w.heap.size + 1, 0, none⟩, 1, [⟨#[100]⟩]⟩]) (heap_at _ _ _ (by rw [World.size_alloc, World.size_alloc])) rfl (by show 2 ≤ 1000000; omega) ?_
  intro r hr
  rcases List.mem_cons.1 hr with rfl | hr
  · exact at_block (xs := [⟨#[97]⟩, ⟨#[98]⟩]) (heap_back (heap_back (heap_at w _ _ rfl))) rfl (by decide)
  · obtain rfl := List.mem_singleton.1 hr
    exact at_block (xs := [⟨#[100]⟩]) (heap_back (heap_at _ _ _ (by rw [World.size_alloc]))) rfl (by decide)
set_option maxRecDepth 100000 in
theorem alive_any (w : World) : Calls Try.prog 13 #[] w fun e w' => e = .returned (.bool true) ∧ Below w.heap.size w w' := by
  go_enter Try.func13, Try.ntmps13
  go_wp2_with fail
  refine (are_any _ (by decide) (alive_want w) true (decide_eq_true (alive_lines.trans (by rfl)))).mono ?_
  rintro e w1 ⟨rfl, hb1⟩
  have HB1 := Lib.hid (((((Below.refl w.heap.size w).alloc (Nat.le_refl _) _).alloc (by simp only [World.size_alloc]; omega) _).alloc (by simp only [World.size_alloc]; omega) _).trans (hb1.mono (by simp only [World.size_alloc]; omega)))
  clear hb1
  go_wp2_with (first
    | (go_at_call 19; refine (mark_is _ 12 0 (told_yes (num_pos (by decide))) 12 true (by decide) _).mono ?_; rintro e w2 ⟨rfl, hb2⟩; have HB2 := Lib.hid hb2; clear hb2)
    | (go_at_call 18; refine (none_is _ 0 10 (told_no (num_bad (by decide))) true (by decide) _).mono ?_; rintro e w3 ⟨rfl, hb3⟩; have HB3 := Lib.hid hb3; clear hb3))
  go_ret
  exact ⟨rfl, (HB1.out.trans (HB2.out.mono HB1.out.size)).trans (HB3.out.mono (Nat.le_trans HB1.out.size HB2.out.size))⟩
end Go.Proofs.Ytbkgcikhiomenaa
