/-
  The program's cells of a type: a function value that calls itself through a variable.
-/
import Derived.Test.YtphoomlamdelkaaTypProg5
import Derived.Test.YtphoomlamdelkaaTypTwin
import Derived.Laws.EntriesVeiled
namespace Go.Proofs.Ytphoomlamdelkaa
set_option linter.unusedVariables false
set_option linter.unusedSimpArgs false
open Go.ChangeShapes Go.WideShapes Go.ChangeAt Go.RowKit

theorem enters_cells : Enters 68 := fun _ _ => by kernel_rfl
/-- The three variables that the walker shares: the table, itself, and the list. -/
structure Boxes (w : World) (lo gt gw gl : Nat) (T v : Value) (acc : List Int) : Prop where
  t : Blk w gt 22 #[T]
  w_ : Blk w gw 69 #[.func (.func 68) #[] #[.pointer (some ⟨gt, 0, none⟩), .pointer (some ⟨gw, 0, none⟩), .pointer (some ⟨gl, 0, none⟩)]]
  l : Blk w gl 29 #[v]
  own : OwnInts w lo v acc
  ne1 : gt ≠ gl
  ne2 : gw ≠ gl
  le : lo ≤ gl
/-- What a walk leaves: the table, the walker, and blocks that are no numbers' stand. -/
structure Walked (lo gl : Nat) (w w' : World) : Prop where
  below : Below lo w w'
  kept : ∀ g t cs, Blk w g t cs → g ≠ gl → t ≠ 3 → Blk w' g t cs
theorem Walked.refl (lo gl : Nat) (w : World) : Walked lo gl w w := ⟨Below.refl _ _, fun _ _ _ h _ _ => h⟩
theorem Walked.trans {lo gl : Nat} {w w' w'' : World} (h : Walked lo gl w w') (h' : Walked lo gl w' w'') : Walked lo gl w w'' := ⟨h.below.trans h'.below, fun g t cs hb h1 h2 => h'.kept g t cs (h.kept g t cs hb h1 h2) h1 h2⟩
theorem Walked.alloc {lo gl : Nat} {w w' : World} (h : Walked lo gl w w') (hl : lo ≤ w'.heap.size) (o : Obj) : Walked lo gl w (w'.alloc o) := ⟨h.below.alloc hl o, fun g t cs hb h1 h2 => (h.kept g t cs hb h1 h2).alloc o⟩
theorem Walked.grown {lo gl : Nat} {w w' w'' : World} {v : Value} {xs : List Int} (h : Walked lo gl w w') (hown : OwnInts w' lo v xs) (hl : lo ≤ w'.heap.size) (hg : w'.grownBy w'' v.ownBlock) : Walked lo gl w w'' :=
  ⟨h.below.grown hg hl hown.base, fun g t cs hb h1 h2 => (h.kept g t cs hb h1 h2).grown hg (hown.ne (h.kept g t cs hb h1 h2) (fun e => h2 e.symm))⟩
theorem Walked.put {lo gl : Nat} {w w' : World} (h : Walked lo gl w w') (hl : lo ≤ gl) (u : Value) : Walked lo gl w (w'.setCell ⟨gl, 0, none⟩ u) :=
  ⟨h.below.setCell hl u, fun g t cs hb h1 h2 => (h.kept g t cs hb h1 h2).far h1 u⟩
theorem Boxes.to {w w' : World} {lo gt gw gl : Nat} {T v v' : Value} {acc acc' : List Int} (h : Boxes w lo gt gw gl T v acc) (hw : Walked lo gl w w') (hl : Blk w' gl 29 #[v']) (ho : OwnInts w' lo v' acc') : Boxes w' lo gt gw gl T v' acc' :=
  ⟨hw.kept _ _ _ h.t h.ne1 (by decide), hw.kept _ _ _ h.w_ h.ne2 (by decide), hl, ho, h.ne1, h.ne2, h.le⟩
def SomeWalk (lo gl : Nat) (acc : List Int) (w : World) (e : Ending) (w' : World) : Prop := ∃ v', e = .returned (.tuple #[]) ∧ Blk w' gl 29 #[v'] ∧ OwnInts w' lo v' acc ∧ Walked lo gl w w'

set_option maxHeartbeats 1600000 in
theorem cells1_any {A : Option Addr} {c : Nat} {rows : List TyR} {lo gt gw gl : Nat} : ∀ (k : Nat) (w : World) (v : Value) (acc : List Int), Hdr A rows.length c → TypsAt w 0 lo A rows → lo ≤ w.heap.size → Good (tbl rows) k → Boxes w lo gt gw gl (.slice A rows.length c) v acc → acc.length + (ofT (tbl rows) k).length ≤ 100000 →
    Calls Try.prog 68 #[.int .i64 k, .pointer (some ⟨gt, 0, none⟩), .pointer (some ⟨gw, 0, none⟩), .pointer (some ⟨gl, 0, none⟩)] w (SomeWalk lo gl (acc ++ ofT (tbl rows) k) w) := by
  intro k
  induction k using Nat.strongRecOn with
  | _ k ih =>
  intro w v acc hh hx hlo hg hbox hacc
  have hk : k < rows.length := by have := hg.lt; rwa [tbl_len] at this
  have hl := Nat.le_trans hh.fit hh.cap
  unfold maxLen at hl
  have eg := enters_cells
  unfold Enters at eg
  obtain ⟨b, off, hA, hbl, c0, c1, c2, c3⟩ := (hx.elem hk).at_
  subst hA
  have HD : Hid ((tbl rows).getD k default = (rows.getD k default).data) := Lib.hid (tbl_at hk)
  have hrk := hx.ok _ (mem_getD (d := default) hk)
  have HI := Lib.hid ih
  have HH := Lib.hid hh
  have HG := Lib.hid hg
  have HX := Lib.hid hx
  have HBX := Lib.hid hbox
  have HAC := Lib.hid hacc
  have t0 := hbox.t.cells 0
  have zt := hbox.t.lt
  have zw := hbox.w_.lt
  have zl := hbox.l.lt
  clear ih hh hg hx hacc
  generalize rows.getD k default = r at c0 c1 c2 c3 HD hrk
  obtain ⟨κ, el, ma, pa, pc, parts⟩ := r
  simp only at c0 c1 c2 c3
  have hlp := Nat.le_trans hrk.hdr.fit hrk.hdr.cap
  unfold maxLen at hlp
  simp only at hlp
  have HK := Lib.hid hrk
  have HW0 : Hid (∀ o, Walked lo gl w (w.alloc o)) := Lib.hid fun o => (Walked.refl lo gl w).alloc hlo o
  have HN := Lib.hid (fun (cs : Array Value) => Blk.new w 31 cs)
  clear hrk hbox
  by_cases e4 : κ = 4
  · subst e4
    have HPT : Hid (ofT (tbl rows) k = parts.flatMap (ofP (tbl rows))) := Lib.hid (by
      rw [ofT_parts HG.out (.inl (by rw [HD.out]; rfl)), HD.out, partsT4 rfl]; rfl)
    have HPB : Hid (∀ p ∈ parts, 0 ≤ p ∧ p < k) := Lib.hid fun p hp => HG.out.parts p (by rw [HD.out, partsT4 rfl]; exact hp)
    have HPG : Hid (∀ p ∈ parts, Good (tbl rows) p.toNat) := Lib.hid fun p hp => HG.out.part (by rw [HD.out, partsT4 rfl]; exact hp)
    go_enter Try.func68, Try.ntmps68
    go_wp2_with fail
    go_loopw [23] (fun i wr => ∃ j : Nat, j ≤ parts.length ∧ i = .int .i64 j ∧ Blk wr w.heap.size 31 #[.int .u8 4, .int .i64 el, .int .i64 ma, .slice pa parts.length pc] ∧ SomeWalk lo gl (acc ++ (parts.take j).flatMap (ofP (tbl rows))) w (.returned (.tuple #[])) wr) (fun i _ => parts.length - (intOf i).toNat)
    case atStart => exact ⟨0, Nat.zero_le _, rfl, HN.out _, v, rfl, (HBX.out.l).alloc _, by rw [List.take_zero, List.flatMap_nil, List.append_nil]; exact HBX.out.own.keep ((Below.refl _ _).alloc (Nat.le_refl _) _), HW0.out _⟩
    case round =>
      obtain ⟨j, hj, rfl, hblk, v1, _, hl1, hown1, hwk1⟩ := hrel
      have HB1 := Lib.hid (HBX.out.to hwk1 hl1 hown1)
      have HWK := Lib.hid hwk1
      have HKX := Lib.hid hblk
      have w0 := HB1.out.w_.cells 0
      have zw1 := HB1.out.w_.lt
      clear hblk hl1 hown1 hwk1
      by_cases hlt : j < parts.length
      · obtain ⟨bp, op, x, hpa, hcx, HE⟩ := (HK.out.keep HWK.out.below).ints.cell hlt
        simp only at hpa
        subst hpa
        have hxm : x ∈ parts := by have := mem_getD (d := (0 : Int)) hlt; rwa [HE.out] at this
        obtain ⟨x0, x1⟩ := HPB.out x hxm
        have hgx := HPG.out x hxm
        obtain ⟨i, rfl⟩ := Int.eq_ofNat_of_zero_le x0
        rw [Int.toNat_natCast] at hgx
        have HSN : Hid ((parts.take (j + 1)).flatMap (ofP (tbl rows)) = (parts.take j).flatMap (ofP (tbl rows)) ++ ofT (tbl rows) i) := Lib.hid (by rw [flat_snoc hlt, HE.out]; rfl)
        have HLE : Hid ((acc ++ (parts.take j).flatMap (ofP (tbl rows))).length + (ofT (tbl rows) i).length ≤ 100000) := Lib.hid (by
          have h1 := HAC.out
          have h2 := congrArg List.length HSN.out
          have h3 : ((parts.take (j + 1)).flatMap (ofP (tbl rows))).length ≤ (parts.flatMap (ofP (tbl rows))).length := by
            have := List.take_append_drop (j + 1) parts
            have h4 := congrArg (fun l => (l.flatMap (ofP (tbl rows))).length) this
            simp only [List.flatMap_append, List.length_append] at h4
            omega
          rw [HPT.out] at h1
          rw [List.length_append] at h2 ⊢
          omega)
        have HC := Lib.hid (HI.out i (by omega) wr v1 _ HH.out (HX.out.keep HWK.out.below) (Nat.le_trans hlo HWK.out.below.size) hgx HB1.out HLE.out)
        clear hxm hgx
        go_wp2_with fail
        refine HC.out.mono ?_
        rintro e w2 ⟨v2, rfl, hl2, hown2, hwk2⟩
        have HW2 := Lib.hid (HWK.out.trans hwk2)
        have HK2 := Lib.hid (hwk2.kept _ _ _ HKX.out (by have := HBX.out.l.lt; omega) (by decide))
        have HL2 := Lib.hid hl2
        have HO2 := Lib.hid hown2
        clear hl2 hown2 hwk2
        go_wp2_with fail
        go_roundw
        case rel => exact ⟨j + 1, by omega, by go_num, HK2.out, v2, rfl, HL2.out, by rw [HSN.out, ← List.append_assoc]; exact HO2.out, HW2.out⟩
        case measure => simp [intOf]; omega
      · go_wp2_with fail
        go_end0
        exact ⟨v1, rfl, HB1.out.l, by have := HB1.out.own; rwa [List.take_of_length_le (by omega), ← HPT.out] at this, HWK.out⟩
  by_cases e5 : κ = 5
  · subst e5
    have hma := may_array HG.out.may (by rw [HD.out]; rfl)
    rw [HD.out] at hma
    simp only [TyR.data] at hma
    obtain ⟨el0, elk, ma1, ma16⟩ := hma
    obtain ⟨i, rfl⟩ := Int.eq_ofNat_of_zero_le el0
    obtain ⟨m, rfl⟩ := Int.eq_ofNat_of_zero_le (show 0 ≤ ma by omega)
    have HPT : Hid (ofT (tbl rows) k = (List.replicate m (ofT (tbl rows) i)).flatten) := Lib.hid (by
      rw [of_array (by rw [HD.out]; rfl) (by rw [HD.out]; exact ⟨by show (0 : Int) ≤ (i : Int); omega, elk⟩), HD.out]; rfl)
    have hik : i < k := by omega
    have HPG : Hid (Good (tbl rows) i) := Lib.hid ⟨HG.out.zero, by have := HG.out.lt; omega⟩
    go_enter Try.func68, Try.ntmps68
    go_wp2_with fail
    go_loopw [35] (fun i' wr => ∃ j : Nat, j ≤ m ∧ i' = .int .i64 j ∧ Blk wr w.heap.size 31 #[.int .u8 5, .int .i64 i, .int .i64 m, .slice pa parts.length pc] ∧ SomeWalk lo gl (acc ++ (List.replicate j (ofT (tbl rows) i)).flatten) w (.returned (.tuple #[])) wr) (fun i' _ => m - (intOf i').toNat)
    case atStart => exact ⟨0, Nat.zero_le _, rfl, HN.out _, v, rfl, (HBX.out.l).alloc _, by rw [List.replicate_zero, List.flatten_nil, List.append_nil]; exact HBX.out.own.keep ((Below.refl _ _).alloc (Nat.le_refl _) _), HW0.out _⟩
    case round =>
      obtain ⟨j, hj, rfl, hblk, v1, _, hl1, hown1, hwk1⟩ := hrel
      have HB1 := Lib.hid (HBX.out.to hwk1 hl1 hown1)
      have HWK := Lib.hid hwk1
      have HKX := Lib.hid hblk
      have w0 := HB1.out.w_.cells 0
      have zw1 := HB1.out.w_.lt
      have x1 := hblk.cells 1
      have zx1 := hblk.lt
      clear hblk hl1 hown1 hwk1
      by_cases hlt : j < m
      · have HSN : Hid ((List.replicate (j + 1) (ofT (tbl rows) i)).flatten = (List.replicate j (ofT (tbl rows) i)).flatten ++ ofT (tbl rows) i) := Lib.hid (rep_snoc _ _)
        have HLE : Hid ((acc ++ (List.replicate j (ofT (tbl rows) i)).flatten).length + (ofT (tbl rows) i).length ≤ 100000) := Lib.hid (by
          have h1 := HAC.out
          have h2 := congrArg List.length HPT.out
          rw [rep_len] at h2
          rw [List.length_append, rep_len]
          have h3 := Nat.mul_le_mul_right (ofT (tbl rows) i).length (show j + 1 ≤ m from hlt)
          rw [Nat.add_mul, Nat.one_mul] at h3
          omega)
        have HC := Lib.hid (HI.out i hik wr v1 _ HH.out (HX.out.keep HWK.out.below) (Nat.le_trans hlo HWK.out.below.size) HPG.out HB1.out HLE.out)
        go_wp2_with fail
        refine HC.out.mono ?_
        rintro e w2 ⟨v2, rfl, hl2, hown2, hwk2⟩
        have HW2 := Lib.hid (HWK.out.trans hwk2)
        have HK2 := Lib.hid (hwk2.kept _ _ _ HKX.out (by have := HBX.out.l.lt; omega) (by decide))
        have HL2 := Lib.hid hl2
        have HO2 := Lib.hid hown2
        clear hl2 hown2 hwk2
        go_wp2_with fail
        go_roundw
        case rel => exact ⟨j + 1, by omega, by go_num, HK2.out, v2, rfl, HL2.out, by rw [HSN.out, ← List.append_assoc]; exact HO2.out, HW2.out⟩
        case measure => simp [intOf]; omega
      · go_wp2_with fail
        go_end0
        exact ⟨v1, rfl, HB1.out.l, by have := HB1.out.own; rwa [show j = m by omega, ← HPT.out] at this, HWK.out⟩
  have HS := Lib.hid (of_scalar (t := tbl rows) (k := k) (by rw [HD.out]; exact e4) (by rw [HD.out]; exact e5))
  have HL : Hid (Blk (w.alloc (.cells #[.int .u8 κ, .int .i64 el, .int .i64 ma, .slice pa parts.length pc] 31)) gl 29 #[v]) := Lib.hid (HBX.out.l.alloc _)
  have l0 := HL.out.cells 0
  have HO : Hid (OwnInts (w.alloc (.cells #[.int .u8 κ, .int .i64 el, .int .i64 ma, .slice pa parts.length pc] 31)) lo v acc) := Lib.hid (HBX.out.own.keep ((Below.refl _ _).alloc (Nat.le_refl _) _))
  go_enter Try.func68, Try.ntmps68
  go_wp2_with (at_builtin; refine wpList_app1 rfl (.tmp 14) (.tmp 16) rfl lo v acc rfl k HO.out (by rw [World.size_alloc]; rfl) (by have := HAC.out; omega) (by rw [World.size_alloc]; omega) ?_; intro v2 w2 hown2 hg2; refine pause ?_)
  have hW1 : Walked lo gl w ((w.alloc (.cells #[.int .u8 κ, .int .i64 el, .int .i64 ma, .slice pa parts.length pc] 31)).alloc (.cells #[.int .i64 k] 3)) := (HW0.out _).alloc (by rw [World.size_alloc]; omega) _
  have hO1 : OwnInts ((w.alloc (.cells #[.int .u8 κ, .int .i64 el, .int .i64 ma, .slice pa parts.length pc] 31)).alloc (.cells #[.int .i64 k] 3)) lo v acc := HO.out.keep ((Below.refl _ _).alloc (Nat.le_refl _) _)
  have hW2 := hW1.grown hO1 (by rw [World.size_alloc, World.size_alloc]; omega) hg2
  have hL2 := (HL.out.alloc (.cells #[.int .i64 k] 3)).grown hg2 (hO1.ne (HL.out.alloc _) (by decide))
  obtain ⟨A2, c2', hv2, _⟩ := hown2.form
  rw [show (acc ++ [(k : Int)]).length = acc.length + 1 by simp] at hv2
  subst hv2
  have l2 := hL2.cells 0
  have f2 := hL2.free 0
  have HW3 := Lib.hid (hW2.put HBX.out.le (.slice A2 (acc.length + 1) c2'))
  have HL3 : Hid (Blk (w2.setCell ⟨gl, 0, none⟩ (.slice A2 (acc.length + 1) c2')) gl 29 #[.slice A2 (acc.length + 1) c2']) := Lib.hid (hL2.put 0 (.slice A2 (acc.length + 1) c2'))
  have HO3 := Lib.hid (OwnInts.far (j := 0) (u := .slice A2 (acc.length + 1) c2') hown2 hL2 (by decide))
  clear hW1 hO1 hW2 hL2 hown2 hg2 l0
  refine resume ?_
  go_wp2_with fail
  go_end0
  refine ⟨_, rfl, HL3.out, ?_, HW3.out⟩
  rw [HS.out]
  exact HO3.out

section
variable {w : World} {A : Option Addr} {c : Nat} {rows : List TyR}
theorem pcells_any (h : TabIn w A c rows) {k : Nat} (hg : Good (tbl rows) k) : Calls Try.prog 48 #[.slice A rows.length c, .int .i64 k] w (SomeInts (ofT (tbl rows) k) w) := by
  have HX := Lib.hid h
  have HG := Lib.hid hg
  have hle := hg.le
  have eg := enters_cells
  unfold Enters at eg
  clear h hg
  go_enter Try.func48, Try.ntmps48
  have hw1 : Below w.heap.size w (w.alloc (.cells #[.slice A rows.length c] 22)) := (Below.refl _ _).alloc (Nat.le_refl _) _
  have hw2 := hw1.alloc (by rw [World.size_alloc]; omega) (.cells #[.slice none 0 0] 29)
  have hw3 := hw2.alloc (by rw [World.size_alloc, World.size_alloc]; omega) (.cells #[.func (.func 68) #[] #[.pointer (some ⟨w.heap.size, 0, none⟩), .pointer (some ⟨w.heap.size + 1 + 1, 0, none⟩), .pointer (some ⟨w.heap.size + 1, 0, none⟩)]] 69)
  have hbx : Boxes (((w.alloc (.cells #[.slice A rows.length c] 22)).alloc (.cells #[.slice none 0 0] 29)).alloc (.cells #[.func (.func 68) #[] #[.pointer (some ⟨w.heap.size, 0, none⟩), .pointer (some ⟨w.heap.size + 1 + 1, 0, none⟩), .pointer (some ⟨w.heap.size + 1, 0, none⟩)]] 69)) w.heap.size w.heap.size (w.heap.size + 1 + 1) (w.heap.size + 1) (.slice A rows.length c) (.slice none 0 0) [] := by
    refine ⟨((Blk.new _ _ _).alloc _).alloc _, ?_, (Blk.new2 _ _ _ _).alloc _, OwnInts.nil _ _, by omega, by omega, by omega⟩
    have := Blk.new2 (w.alloc (.cells #[.slice A rows.length c] 22)) (.cells #[.slice none 0 0] 29) 69 #[.func (.func 68) #[] #[.pointer (some ⟨w.heap.size, 0, none⟩), .pointer (some ⟨w.heap.size + 1 + 1, 0, none⟩), .pointer (some ⟨w.heap.size + 1, 0, none⟩)]]
    rw [World.size_alloc] at this
    exact this
  have HC := Lib.hid (cells1_any k _ _ _ HX.out.hdr (HX.out.rows.keep hw3) hw3.size HG.out hbx (by simp; omega))
  have HB3 := Lib.hid hw3
  clear hw1 hw2 hw3 hbx
  go_wp2_with fail
  refine HC.out.mono ?_
  rintro e w2 ⟨v2, rfl, hl2, hown2, hwk2⟩
  rw [List.nil_append] at hown2
  obtain ⟨A2, c2', rfl, _⟩ := hown2.form
  have l2 := hl2.cells 0
  have f2 := hl2.free 0
  have HB4 := Lib.hid ((HB3.out.trans hwk2.below).setCell (p := ⟨w.heap.size + 1, 0, none⟩) (by show w.heap.size ≤ w.heap.size + 1; omega) (.slice A2 (ofT (tbl rows) k).length c2'))
  have HO4 := Lib.hid (OwnInts.far (j := 0) (u := .slice A2 (ofT (tbl rows) k).length c2') hown2 hl2 (by decide))
  have l4 : (w2.setCell ⟨w.heap.size + 1, 0, none⟩ (.slice A2 (ofT (tbl rows) k).length c2')).cell? ⟨w.heap.size + 1, 0, none⟩ = some (.slice A2 (ofT (tbl rows) k).length c2') := (hl2.put 0 (.slice A2 (ofT (tbl rows) k).length c2')).cells 0
  clear hl2 hown2 hwk2 HC
  go_wp2_with fail
  refine bodyPost_ret (v := .slice A2 (ofT (tbl rows) k).length c2') (by simp [results, Try.results48, go_sem, l4]) rfl ⟨_, rfl, HO4.out, HB4.out⟩
end
end Go.Proofs.Ytphoomlamdelkaa
