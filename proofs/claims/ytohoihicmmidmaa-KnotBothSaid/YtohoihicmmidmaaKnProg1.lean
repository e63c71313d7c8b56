/-
  The program's Heads.
-/
import Derived.Test.YtohoihicmmidmaaKnKnots
namespace Go.Proofs.Ytohoihicmmidmaa
set_option linter.unusedVariables false
set_option linter.unusedSimpArgs false
open Go.ChangeShapes Go.WideShapes Go.ChangeAt Go.RowKit Kn

/-- A function's values, up to k. -/
def upTo (f : Nat → Nat) (n k : Nat) : List Nat := (List.range n).map fun j => if j < k then f j else 0
theorem upTo_len (f : Nat → Nat) (n k : Nat) : (upTo f n k).length = n := by simp [upTo]
theorem upTo_zero (f : Nat → Nat) (n : Nat) : nI (upTo f n 0) = List.replicate n 0 := by
  apply List.ext_getElem
  · simp [nI, upTo]
  · intro i h1 h2
    simp [nI, upTo]
theorem upTo_step (f : Nat → Nat) {n k : Nat} (hk : k < n) : (upTo f n k).set k (f k) = upTo f n (k + 1) := by
  apply List.ext_getElem
  · simp [upTo]
  · intro i h1 h2
    rw [List.getElem_set]
    by_cases e : k = i
    · subst e; simp [upTo]
    · have e1 : (i < k + 1) = (i < k) := by
        apply propext; constructor <;> intro h <;> omega
      simp [upTo, e, e1]
theorem upTo_end {f g : Nat → Nat} {n : Nat} (h : ∀ a, a < n → f a = g a) : upTo f n n = (List.range n).map g := by
  unfold upTo
  apply List.map_congr_left
  intro a ha
  rw [List.mem_range] at ha
  rw [if_pos ha, h a ha]
theorem AllAt.keep {w w' : World} {lo : Nat} {va : Value} {rows : List Value} {all : List (List Nat)} (h : AllAt w lo va rows all) (hb : Below w.heap.size w w') : AllAt w' lo va rows all :=
  ⟨ownsRow_keep h.row hb, fun i hi => (h.inner i hi).keep hb⟩
theorem AllAt.hdr {w : World} {lo : Nat} {va : Value} {rows : List Value} {all : List (List Nat)} (h : AllAt w lo va rows all) : ∃ A c, va = .slice A all.length c ∧ Hdr A all.length c := by
  obtain ⟨A, c, hv, hle, hcap, hnil, _⟩ := ownsRow_form h.row (by omega)
  exact ⟨A, c, hv, ⟨hle, hcap, hnil⟩⟩
/-- One of them. -/
theorem AllAt.elem {w : World} {lo c : Nat} {A : Option Addr} {rows : List Value} {all : List (List Nat)} (h : AllAt w lo (.slice A all.length c) rows all) {k : Nat} (hk : k < all.length) :
    ∃ g A' c', A = some ⟨g, 0, none⟩ ∧ w.cell? ⟨g, k, none⟩ = some (.slice A' (all.getD k []).length c') ∧ Hdr A' (all.getD k []).length c' ∧ IntsAt w 0 w.heap.size A' (nI (all.getD k [])) := by
  obtain ⟨A', c', hv, hh, hi⟩ := (h.inner k hk).full
  rw [nI_len] at hv hh
  rcases h.row.2 with ⟨_, h2⟩ | ⟨g, cap, cur, h1, h2, h3, h4, h5, h6, h7⟩
  · omega
  · injection h1 with e1 _ _
    subst e1
    refine ⟨g, A', c', rfl, ?_, hh, hi⟩
    rw [cell_of_row w g k cur _ (0, 0) h3, ← hv]
    have hlen := h.row.1
    have e2 : (cur.toList.take (all.length * 1))[k]? = rows[k]? := by rw [h7]
    rw [List.getElem?_take, if_pos (by omega)] at e2
    rw [← Array.getElem?_toList, e2, List.getD_eq_getElem?_getD, List.getElem?_eq_getElem (by omega)]
    rfl
theorem knots_of {n : Nat} {l : List (Int × Int)} (hok : okG n l) : Knots (Arr l) n (knotsP (toL l) n n).all := knots_all (arr_iff hok) (arr_lt hok)
theorem knots_few {n : Nat} {all : List (List Nat)} {E : Nat → Nat → Prop} (K : Knots E n all) : all.length ≤ n := by
  have h1 := all_few all (fun A hA => (K.knot A hA).1)
  have h2 := few_of K.nd (fun a ha => (K.mem a).1 ha)
  omega
theorem least_head {E : Nat → Nat → Prop} {n : Nat} {all : List (List Nat)} (K : Knots E n all) {a : Nat} (ha : a < n) {m : Int} (hm : m ∈ nI (all.getD (placeOf all a) [])) (hl : ∀ x ∈ nI (all.getD (placeOf all a) []), m ≤ x) : m = (headN E a : Int) := by
  obtain ⟨A, hA, haA⟩ := K.at ha
  have e : all.getD (placeOf all a) [] = A := by rw [List.getD_eq_getElem?_getD, hA]; rfl
  rw [e] at hm hl
  unfold nI at hm hl
  obtain ⟨z, hz, rfl⟩ := List.mem_map.1 hm
  have := head_eq (K.head ha hA hz (fun b hb => by have := hl _ (List.mem_map.2 ⟨b, hb, rfl⟩); simp at this; exact this))
  rw [this]; rfl
set_option maxHeartbeats 1600000 in
theorem heads_any {w : World} {A : Option Addr} {c : Nat} {l : List (Int × Int)} (hx : GIn w A c l) (n : Int) :
    Calls Try.prog 10 #[.int .i64 n, .slice A l.length c] w (SomeIntsE (headsG n l) (checkG n l) w) := by
  have HX := Lib.hid hx
  clear hx
  obtain ⟨e0, he0⟩ : ∃ e0, checkG n l = e0 := ⟨_, rfl⟩
  have HC := Lib.hid (check_any HX.out n)
  rw [he0] at HC ⊢
  by_cases h0 : e0 = 0
  · subst h0
    obtain ⟨hn0, hn, hl, hok⟩ := check_ok he0
    obtain ⟨m, rfl⟩ := Int.eq_ofNat_of_zero_le hn0
    rw [Int.toNat_natCast] at hok
    have HG : Hid (headsG (m : Int) l = nI (headsL (Arr l) m)) := Lib.hid (by unfold headsG; rw [if_pos he0, Int.toNat_natCast])
    have HOK := Lib.hid hok
    have hm : m ≤ 1000 := by omega
    have hmk := make_ints m (by omega)
    clear he0 hok
    go_enter Try.func10, Try.ntmps10
    go_wp2_with fail
    refine HC.out.mono ?_
    rintro e w1 ⟨rfl, hb1⟩
    have HB1 := Lib.hid hb1
    have HA := Lib.hid (knots_any (HX.out.on hb1) hm hl HOK.out)
    clear hb1
    go_wp2_with fail
    refine HA.out.mono ?_
    rintro e w2 ⟨va, P, rows, rfl, hP, hpl, hal, hb2⟩
    have HK := Lib.hid (knots_of HOK.out)
    generalize (knotsP (toL l) m m).all = all at *
    obtain ⟨Aa, ca, rfl, hha⟩ := hal.hdr
    have HAL := Lib.hid hal
    have HPL := Lib.hid hpl
    have HB2 := Lib.hid (HB1.out.trans (hb2.mono HB1.out.size))
    have hall := knots_few HK.out
    clear hal hb2 hpl hha
    have HMK := Lib.hid (IBlk.made w2 m)
    have HBK : Hid (Below w2.heap.size w2 (w2.alloc (.cells (madeCells #[.int .i64 0] m) 3))) := Lib.hid ((Below.refl _ _).alloc (Nat.le_refl _) _)
    go_wp2_with fail
    clear hmk
    go_loopw [26] (fun i wr => ∃ k : Nat, k ≤ m ∧ i = .int .i64 k ∧ IBlk wr w2.heap.size (nI (upTo (headN (Arr l)) m k)) ∧ Below w2.heap.size w2 wr) (fun i _ => m - (intOf i).toNat)
    case atStart => exact ⟨0, Nat.zero_le _, rfl, by rw [upTo_zero]; exact HMK.out, HBK.out⟩
    case round =>
      obtain ⟨k, hk, rfl, hown, hb2r⟩ := hrel
      have HO := Lib.hid hown
      have HR := Lib.hid hb2r
      clear hown hb2r
      by_cases hlt : k < m
      · have hpk := HK.out.lt hlt
        have cp := (HPL.out.beneath HR.out).at_ (i := k) (by rw [nI_len, placeL_len]; exact hlt)
        rw [nI_at, placeL_at _ hlt] at cp
        obtain ⟨ga, A', c', rfl, cg, hh', hi'⟩ := (HAL.out.keep HR.out).elem hpk
        have hpos : 0 < (all.getD (placeOf all k) []).length := by
          obtain ⟨B, hB, hkB⟩ := HK.out.at hlt
          rw [List.getD_eq_getElem?_getD, hB]
          exact List.length_pos_of_mem hkB
        have HM := min_any (by rw [nI_len]; exact hh') hi' (by rw [nI_len]; exact hpos)
        rw [nI_len] at HM
        have HMM := Lib.hid HM
        have HLH := Lib.hid (fun (mm : Int) => least_head HK.out hlt (m := mm))
        have ck := HO.out.at_ (i := k) (by rw [nI_len, upTo_len]; exact hlt)
        have fk := HO.out.free k
        clear HM hh' hi' hpos
        generalize placeOf all k = pk at *
        generalize (all.getD pk []) = Ak at *
        go_wp2_with fail
        refine HMM.out.mono ?_
        rintro e w3 ⟨mm, rfl, hm1, hm2, rfl⟩
        have hmm := HLH.out mm hm1 hm2
        subst hmm
        have HP2 : Hid (IBlk (wr.setCell ⟨w2.heap.size, k, none⟩ (.int .i64 (headN (Arr l) k : Int))) w2.heap.size (nI (upTo (headN (Arr l)) m (k + 1)))) := Lib.hid (by
          rw [← upTo_step _ hlt, ← nI_set]
          exact HO.out.put k _)
        have HB2r := Lib.hid (belowSet0 (j := k) (v := .int .i64 (headN (Arr l) k : Int)) HR.out)
        clear hm1 hm2
        go_wp2_with fail
        go_roundw
        case rel => exact ⟨k + 1, by omega, by go_num, HP2.out, HB2r.out⟩
        case measure => simp [intOf]; omega
      · have hkm : k = m := by omega
        subst hkm
        have HO2 : Hid (IBlk wr w2.heap.size (nI (headsL (Arr l) k))) := Lib.hid (by have := HO.out; rwa [upTo_end (g := headN (Arr l)) (fun _ _ => rfl)] at this)
        have HB := Lib.hid (HB2.out.trans (HR.out.mono HB2.out.size))
        go_wp2_with fail
        go_ret2
        exact ⟨_, rfl, by rw [HG.out]; have := HO2.out.own (lo := w.heap.size) HB2.out.size (by rw [nI_len, headsL_len]; unfold maxLen; omega); rwa [nI_len, headsL_len] at this, HB.out⟩
  · have HG : Hid (headsG n l = []) := Lib.hid (by unfold headsG; rw [if_neg (by rw [he0]; exact h0)])
    have hne : (e0 == 0) = false := by simpa using h0
    have hne2 : (e0 != 0) = true := by simpa using h0
    clear he0
    go_enter Try.func10, Try.ntmps10
    go_wp2_with fail
    refine HC.out.mono ?_
    rintro e w1 ⟨rfl, hb1⟩
    have HB1 := Lib.hid hb1
    clear hb1
    go_wp2_with fail
    go_ret2
    exact ⟨_, rfl, by rw [HG.out]; exact OwnInts.nil _ _, HB1.out⟩
end Go.Proofs.Ytohoihicmmidmaa
