/-
  The reference's answers for types: PartOf, Part, Ahead, Offset; and whether two lists of numbers are the same.
-/
import Derived.Test.YtphoomlamdelkaaTypRef3
import Derived.Outline
import Derived.BigQuiet
import Derived.Deep.QuietTactic
namespace Go.Proofs.Ytphoomlamdelkaa
set_option linter.unusedVariables false
set_option linter.unusedSimpArgs false
open Go.ChangeShapes Go.WideShapes Go.ChangeAt Go.RowKit

theorem rpartOf_any {w : World} {lo : Nat} (r : TyR) (hr : r.Ok w lo w.heap.size) (n : Int) (hn : n ≤ 9223372036854775807) :
    Calls Try.prog 54 #[r.val, .int .i64 n] w fun e w' => e = .returned (.int .i64 (partOfT r.data n)) ∧ Below w.heap.size w w' := by
  obtain ⟨κ, el, ma, pa, pc, parts⟩ := r
  have hl := Nat.le_trans hr.hdr.fit hr.hdr.cap
  unfold maxLen at hl
  have hb0 : Below w.heap.size w (w.alloc (.cells #[.int .u8 κ, .int .i64 el, .int .i64 ma, .slice pa parts.length pc] 31)) := (Below.refl _ _).alloc (Nat.le_refl _) _
  have HK := Lib.hid hr
  clear hr hb0
  unfold TyR.val
  by_cases e4 : κ = 4
  · subst e4
    have HP : Hid (partOfT ⟨4, el, ma, parts⟩ n = if 0 ≤ n ∧ n < parts.length then parts.getD n.toNat 0 else -1) := Lib.hid rfl
    by_cases hin : 0 ≤ n ∧ n < parts.length
    · obtain ⟨n0, n1⟩ := hin
      obtain ⟨i, rfl⟩ := Int.eq_ofNat_of_zero_le n0
      obtain ⟨b, off, x, hpa, hcell, HE⟩ := HK.out.ints.cell (k := i) (by show i < parts.length; omega)
      simp only at hpa
      subst hpa
      have hbl := World.block_lt_of_cell? w _ hcell
      simp only at hbl
      go_enter Try.func54, Try.ntmps54
      go_wp2_with fail
      go_ret
      refine ⟨ret_num ?_, (Below.refl _ _).alloc (Nat.le_refl _) _⟩
      show x = partOfT ⟨4, el, ma, parts⟩ i
      rw [HP.out, if_pos ⟨by omega, by omega⟩, Int.toNat_natCast]
      exact HE.out.symm
    · have HI := Lib.hid hin
      clear hin
      go_enter Try.func54, Try.ntmps54
      go_wp2_with fail
      all_goals first | (exfalso; have := HI.out; omega) | go_ret
      all_goals refine ⟨ret_num ?_, (Below.refl _ _).alloc (Nat.le_refl _) _⟩
      all_goals show _ = partOfT ⟨4, el, ma, parts⟩ n
      all_goals rw [HP.out, if_neg HI.out]
  by_cases e5 : κ = 5
  · subst e5
    have HP : Hid (partOfT ⟨5, el, ma, parts⟩ n = if 0 ≤ n ∧ n < ((List.replicate ma.toNat el).length : Int) then (List.replicate ma.toNat el).getD n.toNat 0 else -1) := Lib.hid rfl
    by_cases hin : 0 ≤ n ∧ n < ma
    · obtain ⟨n0, n1⟩ := hin
      go_enter Try.func54, Try.ntmps54
      go_wp2_with fail
      go_ret
      refine ⟨ret_num ?_, (Below.refl _ _).alloc (Nat.le_refl _) _⟩
      show el = partOfT ⟨5, el, ma, parts⟩ n
      rw [HP.out, List.length_replicate, if_pos ⟨by omega, by omega⟩, List.getD_eq_getElem?_getD, List.getElem?_replicate, if_pos (by omega)]
      rfl
    · have HI := Lib.hid hin
      clear hin
      go_enter Try.func54, Try.ntmps54
      go_wp2_with fail
      all_goals first | (exfalso; have := HI.out; omega) | go_ret
      all_goals refine ⟨ret_num ?_, (Below.refl _ _).alloc (Nat.le_refl _) _⟩
      all_goals show _ = partOfT ⟨5, el, ma, parts⟩ n
      all_goals rw [HP.out, if_neg (by have := HI.out; rw [List.length_replicate]; omega)]
  have HP : Hid (partOfT ⟨κ, el, ma, parts⟩ n = -1) := Lib.hid (by unfold partOfT; rw [partsT0 e4 e5, if_neg (by simp)])
  go_enter Try.func54, Try.ntmps54
  go_wp2_with fail
  all_goals go_ret
  all_goals exact ⟨ret_num HP.out.symm, (Below.refl _ _).alloc (Nat.le_refl _) _⟩

theorem part_ne_neg {t : List Ty} {k : Nat} (h : Good t k) {n : Int} : (partOfT (t.getD k default) n < 0 ↔ ¬ (0 ≤ n ∧ n < (partsT (t.getD k default)).length)) := by
  unfold partOfT
  by_cases hin : 0 ≤ n ∧ n < ((partsT (t.getD k default)).length : Int)
  · rw [if_pos hin]
    have := h.parts _ (mem_getD0 (l := partsT (t.getD k default)) (n := n.toNat) (by omega))
    exact ⟨fun h => by omega, fun h => absurd hin h⟩
  · rw [if_neg hin]
    exact ⟨fun _ => hin, fun _ => by omega⟩
section
variable {w : World} {A : Option Addr} {c : Nat} {rows : List TyR}
theorem TabIn.row (h : TabIn w A c rows) {i : Nat} (hi : i < rows.length) : (rows.getD i default).Ok w 0 w.heap.size := h.rows.ok _ (mem_getD (d := default) hi)
set_option maxHeartbeats 400000 in
theorem rpart_any (h : TabIn w A c rows) (k n : Int) (hn : n ≤ 9223372036854775807) : Calls Try.prog 29 #[.slice A rows.length c, .int .i64 k, .int .i64 n] w fun e w' => e = .returned (.tuple #[.int .i64 (partT (tbl rows) k n).1, .int .i64 (partT (tbl rows) k n).2]) ∧ Below w.heap.size w w' := by
  have hl := h.len
  obtain ⟨ch, hch⟩ : ∃ ch, askedT (tbl rows) k = ch := ⟨_, rfl⟩
  have HX := Lib.hid h
  have HC := Lib.hid hch
  clear h hch
  by_cases h0 : ch = 0
  · subst h0
    have HG := Lib.hid (asked_good HC.out)
    obtain ⟨_, k0, k1⟩ := asked_zero HC.out
    rw [tbl_len] at k1
    obtain ⟨i, rfl⟩ := Int.eq_ofNat_of_zero_le k0
    have hi : i < rows.length := by omega
    have HP : Hid (partT (tbl rows) i n = if partOfT ((tbl rows).getD i default) n < 0 then (0, 2) else (partOfT ((tbl rows).getD i default) n, 0)) := Lib.hid (by
      have hpn := part_ne_neg HG.out (n := n)
      rw [Int.toNat_natCast] at hpn
      unfold partT
      rw [if_neg (by rw [HC.out]; decide), Int.toNat_natCast]
      by_cases hin : 0 ≤ n ∧ n < ((partsT ((tbl rows).getD i default)).length : Int)
      · rw [if_pos hin, if_neg (fun h => hpn.1 h hin)]
        unfold partOfT
        rw [if_pos hin]
      · rw [if_neg hin, if_pos (hpn.2 hin)])
    have HD : Hid ((tbl rows).getD i default = (rows.getD i default).data) := Lib.hid (tbl_at hi)
    have hrow := HX.out.row hi
    obtain ⟨b, off, rfl, hbl, c0, c1, c2, c3⟩ := (HX.out.rows.elem hi).at_
    generalize rows.getD i default = r at c0 c1 c2 c3 HD hrow
    rw [HD.out] at HP
    obtain ⟨pn, hpn⟩ : ∃ pn, partOfT r.data n = pn := ⟨_, rfl⟩
    have HPN := Lib.hid hpn
    have HR := Lib.hid hrow
    clear hpn hrow HD
    go_enter Try.func29, Try.ntmps29
    go_wp2_with fail
    refine (rasked_is HX.out _ HC.out).mono ?_
    rintro e w1 ⟨rfl, hb1⟩
    have HB1 := Lib.hid hb1
    have d0 := (hb1.cell (p := ⟨b, off + i * 4, none⟩) hbl).trans c0
    have d1 := (hb1.cell (p := ⟨b, off + i * 4 + 1, none⟩) hbl).trans c1
    have d2 := (hb1.cell (p := ⟨b, off + i * 4 + 2, none⟩) hbl).trans c2
    have d3 := (hb1.cell (p := ⟨b, off + i * 4 + 3, none⟩) hbl).trans c3
    clear hb1
    go_wp2_with fail
    refine (rpartOf_any r ((HR.out.keep HB1.out).more (Nat.le_refl _) HB1.out.size) n hn).mono ?_
    rw [HPN.out]
    rintro e w2 ⟨rfl, hb2⟩
    have HB2 := Lib.hid (HB1.out.trans (hb2.mono HB1.out.size))
    clear hb2
    by_cases hneg : pn < 0
    · go_wp2_with fail
      go_ret2
      exact ⟨by rw [HP.out, HPN.out, if_pos hneg]; rfl, HB2.out⟩
    · go_wp2_with fail
      go_ret2
      exact ⟨by rw [HP.out, HPN.out, if_neg (by omega)]; rfl, HB2.out⟩
  · have HP : Hid (partT (tbl rows) k n = (0, ch)) := Lib.hid (by unfold partT; rw [if_pos (by rw [HC.out]; exact h0), HC.out])
    go_enter Try.func29, Try.ntmps29
    go_wp2_with fail
    refine (rasked_is HX.out k HC.out).mono ?_
    rintro e w1 ⟨rfl, hb1⟩
    have HB1 := Lib.hid hb1
    clear hb1
    go_wp2_with fail
    go_ret2
    exact ⟨by rw [HP.out]; rfl, HB1.out⟩
end

/-- Two lists of whole numbers: the same? -/
theorem take_eq_succ {α : Type} {d : α} {xs ys : List α} {k : Nat} (h : xs.take k = ys.take k) (h1 : k < xs.length) (h2 : k < ys.length) (e : xs.getD k d = ys.getD k d) : xs.take (k + 1) = ys.take (k + 1) := by
  rw [take_succ_getD (d := d) h1, take_succ_getD (d := d) h2, h, e]
theorem ne_of_getD {α : Type} {d : α} {xs ys : List α} {k : Nat} (e : xs.getD k d ≠ ys.getD k d) : xs ≠ ys := fun h => e (by rw [h])
theorem sameInts_any {w : World} {lo lo' B B' : Nat} {A A' : Option Addr} {c c' : Nat} {xs ys : List Int} (hh : Hdr A xs.length c) (hx : IntsAt w lo B A xs) (hh' : Hdr A' ys.length c') (hy : IntsAt w lo' B' A' ys) :
    Calls Try.prog 23 #[.slice A xs.length c, .slice A' ys.length c'] w fun e w' => e = .returned (.bool (decide (xs = ys))) ∧ Below w.heap.size w w' := by
  have hl := Nat.le_trans hh.fit hh.cap
  have hl' := Nat.le_trans hh'.fit hh'.cap
  unfold maxLen at hl hl'
  have HX := Lib.hid hx
  have HY := Lib.hid hy
  clear hx hy hh hh'
  by_cases hlen : xs.length = ys.length
  · have q : (xs.length : Int) = ys.length := by omega
    go_enter Try.func23, Try.ntmps23
    go_wp2_with fail
    go_loopw [5] (fun i wr => ∃ k : Nat, k ≤ xs.length ∧ i = .int .i64 k ∧ Hid (xs.take k = ys.take k) ∧ Below w.heap.size w wr) (fun i _ => xs.length - (intOf i).toNat)
    case atStart => exact ⟨0, Nat.zero_le _, rfl, Lib.hid rfl, Below.refl _ _⟩
    case round =>
      obtain ⟨k, hk, rfl, HT, hbel⟩ := hrel
      have HB := Lib.hid hbel
      clear hbel
      by_cases hlt : k < xs.length
      · obtain ⟨b, off, x, rfl, hcell, HE⟩ := (HX.out.cell hlt)
        obtain ⟨b', off', y, rfl, hcell', HE'⟩ := (HY.out.cell (k := k) (by omega))
        have d1 := (HB.out.cell (p := ⟨b, off + k, none⟩) (World.block_lt_of_cell? w _ hcell)).trans hcell
        have d2 := (HB.out.cell (p := ⟨b', off' + k, none⟩) (World.block_lt_of_cell? w _ hcell')).trans hcell'
        clear hcell hcell'
        by_cases hxy : x = y
        · subst hxy
          go_wp2_with fail
          go_quiet (fail)
          go_wp2_with fail
          go_roundw
          case rel => exact ⟨k + 1, by omega, by go_num, Lib.hid (take_eq_succ (d := 0) HT.out hlt (by omega) (by rw [HE.out, HE'.out])), belowDrewN HB.out _⟩
          case measure => simp [intOf]; omega
        · have hne : (x == y) = false := by simpa using hxy
          have HN : Hid (xs ≠ ys) := Lib.hid (ne_of_getD (d := 0) (k := k) (by rw [HE.out, HE'.out]; exact hxy))
          go_wp2_with fail
          go_quiet (fail)
          go_wp2_with fail
          go_ret
          exact ⟨ret_bool (by rw [decide_eq_false HN.out]), belowDrewN HB.out _⟩
      · go_wp2_with fail
        go_ret
        exact ⟨ret_bool (by rw [decide_eq_true]; have := HT.out; rwa [List.take_of_length_le (by omega), List.take_of_length_le (by omega)] at this), HB.out⟩
  · have q : ¬ (xs.length : Int) = ys.length := by omega
    have HN : Hid (xs ≠ ys) := Lib.hid (fun h => hlen (by rw [h]))
    clear hlen
    go_enter Try.func23, Try.ntmps23
    go_wp2_with fail
    go_ret
    exact ⟨ret_bool (by rw [decide_eq_false HN.out]), Below.refl _ _⟩
end Go.Proofs.Ytphoomlamdelkaa
