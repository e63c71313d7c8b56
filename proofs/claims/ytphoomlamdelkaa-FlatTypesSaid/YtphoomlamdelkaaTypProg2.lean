/-
  The program's may: which type may be, and how many cells it has.
-/
import Derived.Test.YtphoomlamdelkaaTypProg1
import Derived.Test.YtphoomlamdelkaaTypRef4
import Derived.Test.YtphoomlamdelkaaTypOwn
namespace Go.Proofs.Ytphoomlamdelkaa
set_option linter.unusedVariables false
set_option linter.unusedSimpArgs false
open Go.ChangeShapes Go.WideShapes Go.ChangeAt Go.RowKit

theorem sum_take (xs : List Int) {k : Nat} (h : k < xs.length) : (xs.take (k + 1)).sum = (xs.take k).sum + xs.getD k 0 := by
  rw [take_succ_getD (d := 0) h, List.sum_append]; simp
theorem sum_bd : ∀ (xs : List Int) (k : Nat), (∀ x ∈ xs, 0 ≤ x ∧ x ≤ 512) → 0 ≤ (xs.take k).sum ∧ (xs.take k).sum ≤ k * 512
  | [], k, _ => by simp; omega
  | x :: xs, 0, _ => by simp
  | x :: xs, k + 1, h => by
    have := sum_bd xs k (fun y hy => h y (by simp [hy]))
    have := h x (by simp)
    rw [List.take_succ_cons, List.sum_cons]
    omega
theorem sum_any {w : World} {lo B : Nat} {A : Option Addr} {c : Nat} {xs : List Int} (hh : Hdr A xs.length c) (hx : IntsAt w lo B A xs) (hbd : ∀ x ∈ xs, 0 ≤ x ∧ x ≤ 512) (hlen : xs.length ≤ 1000) :
    Calls Try.prog 65 #[.slice A xs.length c] w fun e w' => e = .returned (.int .i64 xs.sum) ∧ w = w' := by
  have HX := Lib.hid hx
  have HBD := Lib.hid hbd
  clear hx hh hbd
  go_enter Try.func65, Try.ntmps65
  go_wp2_with fail
  go_loop [2, 7] (fun s i => ∃ k : Nat, k ≤ xs.length ∧ i = .int .i64 k ∧ s = .int .i64 (xs.take k).sum) (fun _ i => xs.length - (intOf i).toNat)
  case atStart => exact ⟨0, Nat.zero_le _, rfl, rfl⟩
  case round =>
    obtain ⟨k, hk, rfl, rfl⟩ := hrel
    obtain ⟨s0, s1⟩ := sum_bd xs k HBD.out
    by_cases hlt : k < xs.length
    · obtain ⟨b, off, x, rfl, hcell, HE⟩ := HX.out.cell hlt
      have HS := Lib.hid (sum_take xs hlt)
      have hxb := HBD.out x (by have := mem_getD (d := (0 : Int)) hlt; rwa [HE.out] at this)
      generalize (xs.take k).sum = s at s0 s1 HS
      go_wp2_with fail
      go_round
      case rel => exact ⟨k + 1, by omega, by go_num, by rw [HS.out, HE.out]⟩
      case measure => simp [intOf]; omega
    · have HS : Hid ((xs.take k).sum = xs.sum) := Lib.hid (by rw [List.take_of_length_le (by omega)])
      generalize (xs.take k).sum = s at s0 s1 HS
      go_wp2_with fail
      go_ret
      exact ⟨ret_num HS.out, rfl⟩

/-- may's predicate. -/
theorem may1_any {w : World} {g : Nat} {A : Option Addr} {c : Nat} {rows : List TyR} (h : TabIn w A c rows) {i : Nat} (hi : i < rows.length) (hc : w.cell? ⟨g, 0, none⟩ = some (.slice A rows.length c)) :
    Calls Try.prog 64 #[.int .i64 i, .pointer (some ⟨g, 0, none⟩)] w fun e w' => e = .returned (.bool (!plainB (tbl rows) i)) ∧ Below w.heap.size w w' := by
  have hl := h.len
  obtain ⟨b, off, rfl, hbl, c0, c1, c2, c3⟩ := (h.rows.elem hi).at_
  have HP := Lib.hid (plain_in hi)
  generalize rows.getD i default = r at c0 c1 c2 c3 HP
  go_enter Try.func64, Try.ntmps64
  go_wp2_with fail
  refine (pscalar_any r).mono ?_
  rintro e w1 ⟨rfl, hb1⟩
  go_wp2_with fail
  go_ret
  exact ⟨ret_bool (by rw [HP.out]), hb1⟩

/-- What may answers. -/
def MayAns (t : List Ty) (k : Nat) (w : World) (e : Ending) (w' : World) : Prop :=
  ∃ n : Int, e = .returned (.tuple #[.int .i64 n, .bool (goodT t k)]) ∧ (goodT t k = true → n = (ofT t k).length) ∧ Below w.heap.size w w'
theorem mayAns_of {t : List Ty} {k : Nat} {w w' : World} {e : Ending} {n : Int} {b : Bool} (he : e = .returned (.tuple #[.int .i64 n, .bool b])) (hb : b = goodT t k) (hn : b = true → n = (ofT t k).length) (hw : Below w.heap.size w w') : MayAns t k w e w' :=
  ⟨n, by rw [he, hb], by rw [← hb]; exact hn, hw⟩
/-- How many cells lower types have. -/
def sizesT (t : List Ty) (k : Nat) : List Int := (List.range k).map fun j => ((ofT t j).length : Int)
theorem sizes_len (t : List Ty) (k : Nat) : (sizesT t k).length = k := by simp [sizesT]
theorem sizes_at {t : List Ty} {k j : Nat} (h : j < k) : (sizesT t k).getD j 0 = (ofT t j).length := by
  unfold sizesT
  simp [List.getD, h]
structure MayIn (w : World) (A : Option Addr) (c : Nat) (rows : List TyR) (k : Nat) (S : Option Addr) (cs : Nat) : Prop where
  tab : TabIn w A c rows
  lt : k < rows.length
  good : allGood (tbl rows) k = true
  hdr : Hdr S k cs
  sizes : IntsAt w 0 w.heap.size S (sizesT (tbl rows) k)
  few : ∀ r ∈ rows, r.parts.length ≤ 1000
theorem good_scalar {t : List Ty} {k : Nat} (h4 : (t.getD k default).kind ≠ 4) (h5 : (t.getD k default).kind ≠ 5) : goodT t k = mayT t k ∧ ((1 : Int) = (ofT t k).length) := by
  unfold goodT
  rw [of_scalar h4 h5]
  exact ⟨by simp, rfl⟩

theorem lowerB_one (x m : Int) : lowerB [x] m = (decide (0 ≤ x) && decide (x < m)) := by simp [lowerB]
set_option maxHeartbeats 800000 in
theorem may12_any {w : World} {A : Option Addr} {c : Nat} {rows : List TyR} {k : Nat} {S : Option Addr} {cs : Nat} (h : MayIn w A c rows k S cs) (hκ : (rows.getD k default).kind = 1 ∨ (rows.getD k default).kind = 2) :
    Calls Try.prog 41 #[.slice A rows.length c, .int .i64 k, .slice S k cs] w (MayAns (tbl rows) k w) := by
  have hl := h.tab.len
  have hk := h.lt
  obtain ⟨b, off, rfl, hbl, c0, c1, c2, c3⟩ := (h.tab.rows.elem hk).at_
  have HM : Hid (mayT (tbl rows) k = mayX (tbl rows) (rows.getD k default).data k) := Lib.hid (by unfold mayT; rw [tbl_at hk])
  have HG := Lib.hid (good_scalar (t := tbl rows) (k := k) (by rw [tbl_at hk]; show (rows.getD k default).kind ≠ 4; omega) (by rw [tbl_at hk]; show (rows.getD k default).kind ≠ 5; omega))
  have hrk := h.tab.row hk
  have HI := Lib.hid h
  clear h
  generalize rows.getD k default = r at c0 c1 c2 c3 HM hrk hκ
  obtain ⟨κ, el, ma, pa, pc, parts⟩ := r
  simp only at c0 c1 c2 c3 hκ
  have hlp := Nat.le_trans hrk.hdr.fit hrk.hdr.cap
  unfold maxLen at hlp
  simp only at hlp
  have HK := Lib.hid hrk
  clear hrk
  rcases hκ with e1 | e2
  · subst e1
    go_enter Try.func41, Try.ntmps41
    go_wp2_with fail
    refine (pplain_any ⟨1, el, ma, pa, pc, parts⟩ (by simpa using hlp)).mono ?_
    rintro e w1 ⟨rfl, hb1⟩
    have kx : Blk w1 (w.heap.size + 1) 31 #[.int .u8 1, .int .i64 el, .int .i64 ma, .slice pa parts.length pc] := (Blk.new2 w _ _ _).beneath hb1
    have k0 := kx.cells 0
    have HB := Lib.hid (below_new2 hb1)
    have hz := hb1.size
    simp only [World.size_alloc] at hz
    clear kx hb1
    obtain ⟨pb, hpb⟩ : ∃ pb, plainK (TyR.data ⟨1, el, ma, pa, pc, parts⟩) = pb := ⟨_, rfl⟩
    rw [hpb]
    have HP := Lib.hid hpb
    clear hpb
    go_wp2_with fail
    all_goals go_ret2
    all_goals refine mayAns_of rfl ?_ (fun _ => HG.out.2) HB.out
    all_goals rw [HG.out.1, HM.out]
    all_goals show _ = (decide (el = 0) && (decide (ma = 0) && decide (parts.length = 0)))
    all_goals rw [← Bool.and_assoc, show (decide (el = 0) && decide (ma = 0) && decide (parts.length = 0)) = pb from HP.out]
    all_goals first | rfl | (simp [*]; done)
  · subst e2
    go_enter Try.func41, Try.ntmps41
    go_wp2_with fail
    refine (pplain_any ⟨2, el, ma, pa, pc, parts⟩ (by simpa using hlp)).mono ?_
    rintro e w1 ⟨rfl, hb1⟩
    have kx : Blk w1 (w.heap.size + 1) 31 #[.int .u8 2, .int .i64 el, .int .i64 ma, .slice pa parts.length pc] := (Blk.new2 w _ _ _).beneath hb1
    have kb : Blk w1 w.heap.size 22 #[.slice (some ⟨b, off, none⟩) rows.length c] := ((Blk.new w _ _).alloc _).beneath hb1
    have k0 := kx.cells 0
    have k1 := kx.cells 1
    have kt := kb.cells 0
    have HB := Lib.hid (below_new2 hb1)
    have hz := hb1.size
    simp only [World.size_alloc] at hz
    clear kx kb hb1
    obtain ⟨pb, hpb⟩ : ∃ pb, plainK (TyR.data ⟨2, el, ma, pa, pc, parts⟩) = pb := ⟨_, rfl⟩
    rw [hpb]
    have HP := Lib.hid hpb
    clear hpb
    cases pb with
    | false =>
      go_wp2_with fail
      all_goals go_ret2
      all_goals refine mayAns_of rfl ?_ (fun h => by cases h) HB.out
      all_goals rw [HG.out.1, HM.out]
      all_goals show _ = (decide (0 ≤ el) && (decide (el < (tbl rows).length) && (decide (ma = 0) && decide (parts.length = 0))))
      all_goals rw [show (decide (ma = 0) && decide (parts.length = 0)) = false from HP.out]
      all_goals simp
    | true =>
      have HO : Hid (∀ w2 : World, IntsAt (w2.alloc (.cells #[.int .i64 el] 3)) 0 (w2.alloc (.cells #[.int .i64 el] 3)).heap.size (some ⟨w2.heap.size, 0, none⟩) [el] ∧ Hdr (some ⟨w2.heap.size, 0, none⟩) 1 1) := Lib.hid fun w2 => (own_hdr (OwnInts.one w2 0 w2.heap.size el (Nat.zero_le _) rfl)).symm
      go_wp2_with fail
      refine (there_any (xs := [el]) (HO.out _).2 (HO.out _).1 rows.length).mono ?_
      rintro e w2 ⟨rfl, hb2⟩
      have HB2 := Lib.hid (HB.out.trans ((below_new hb2).mono HB.out.size))
      clear hb2
      go_wp2_with fail
      all_goals go_ret2
      all_goals refine mayAns_of rfl ?_ (fun _ => HG.out.2) HB2.out
      all_goals rw [HG.out.1, HM.out]
      all_goals show _ = (decide (0 ≤ el) && (decide (el < (tbl rows).length) && (decide (ma = 0) && decide (parts.length = 0))))
      all_goals rw [show (decide (ma = 0) && decide (parts.length = 0)) = true from HP.out, tbl_len, ← Bool.and_assoc, Bool.and_true, ← lowerB_one]
      all_goals first | rfl | (simp [*]; done)
end Go.Proofs.Ytphoomlamdelkaa
