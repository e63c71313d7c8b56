/-
  Are lines more than statements go through?
-/
import Derived.Test.YtbkgcikhiomenaaLexRef5
import Derived.WalkLawsBesides
namespace Go.Proofs.Ytbkgcikhiomenaa
set_option linter.unusedVariables false
set_option linter.unusedSimpArgs false
open Go.ChangeShapes Go.WideShapes Go.ChangeAt Go.RowKit

def costW (x : ByteArray) : Nat := 1 + min x.size 100000
def costL (xs : List ByteArray) : Nat := 1 + (xs.map costW).sum
def costA (rows : List LnR) : Nat := (rows.map fun r => costL r.xs).sum
/-- Lines of so many bytes at most. -/
def FewC (rows : List LnR) (most : Nat) : Prop := rows.length ≤ 2000 ∧ (∀ r ∈ rows, r.xs.length ≤ 80) ∧ costA rows ≤ most
theorem sum_snoc (l : List Nat) (x : Nat) : (l ++ [x]).sum = l.sum + x := by rw [List.sum_append]; simp
theorem sum_mem {l : List Nat} {x : Nat} (h : x ∈ l) : x ≤ l.sum := by
  induction l with
  | nil => cases h
  | cons a t ih =>
    rw [List.sum_cons]
    rcases List.mem_cons.1 h with h | h
    · omega
    · have := ih h; omega
theorem FewC.few {rows : List LnR} {most : Nat} (h : FewC rows most) (hm : most ≤ 20000) : FewL rows := by
  refine ⟨by have := h.1; omega, fun r hr => ⟨h.2.1 r hr, fun x hx => ?_⟩⟩
  have h1 : costL r.xs ≤ costA rows := sum_mem (List.mem_map.2 ⟨r, hr, rfl⟩)
  have h2 : costW x ≤ (r.xs.map costW).sum := sum_mem (List.mem_map.2 ⟨x, hx, rfl⟩)
  have h3 := h.2.2
  unfold costL at h1
  have h4 : 1 + min x.size 100000 ≤ (r.xs.map costW).sum := h2
  omega
/-- Not told great: few. -/
def NotGreat (rows : List LnR) (most : Nat) (b : Bool) : Prop := b = false → FewC rows most
def GreatOf (rows : List LnR) (most : Nat) (w : World) (e : Ending) (w' : World) : Prop := ∃ b, e = .returned (.bool b) ∧ NotGreat rows most b ∧ Below w.heap.size w w'
theorem costA_take {rows : List LnR} {k : Nat} (h : k < rows.length) : costA (rows.take (k + 1)) = costA (rows.take k) + costL (rows.getD k default).xs := by
  unfold costA
  rw [take_next (d := default) rows h, List.map_append, List.map_cons, List.map_nil, sum_snoc]
theorem costS_take {xs : List ByteArray} {k : Nat} (h : k < xs.length) : ((xs.take (k + 1)).map costW).sum = ((xs.take k).map costW).sum + costW (xs.getD k ⟨#[]⟩) := by
  rw [take_next (d := ⟨#[]⟩) xs h, List.map_append, List.map_cons, List.map_nil, sum_snoc]
theorem costS_le (xs : List ByteArray) : (xs.map costW).sum ≤ 100001 * xs.length := by
  induction xs with
  | nil => exact Nat.zero_le _
  | cons a t ih =>
    rw [List.map_cons, List.sum_cons, List.length_cons]
    unfold costW at *
    omega
set_option maxRecDepth 100000 in
set_option maxHeartbeats 3200000 in
theorem rgreatl_any {w : World} {A : Option Addr} {c : Nat} {rows : List LnR} (h : LinesAt w A c rows) (most : Nat) (hm : most ≤ 20000) :
    Calls Try.prog 15 #[.slice A rows.length c, .int .i64 most] w (GreatOf rows most w) := by
  have hl := h.hdr.le
  have hmz : (most : Int) ≤ 20000 := by omega
  have HX := Lib.hid h
  clear h
  go_enter Try.func15, Try.ntmps15
  go_wp2_with fail
  go_loopw [5, 6] (fun v i wr => ∃ k n : Nat, k ≤ rows.length ∧ k ≤ 2100 ∧ i = .int .i64 k ∧ v = .int .i64 n ∧ n ≤ 20000 ∧ Hid (n = costA (rows.take k) ∧ n ≤ most ∧ ∀ r ∈ rows.take k, r.xs.length ≤ 80) ∧ Hid (Below w.heap.size w wr)) (fun _ i _ => rows.length - (intOf i).toNat)
  case atStart => exact ⟨0, 0, Nat.zero_le _, Nat.zero_le _, rfl, rfl, Nat.zero_le _, Lib.hid ⟨rfl, Nat.zero_le _, fun r h => (by cases h)⟩, Lib.hid (Below.refl _ _)⟩
  case round =>
    obtain ⟨k, n, hk, hk1, rfl, rfl, hn, HN, HB⟩ := hrel
    obtain ⟨wo, rfl⟩ : ∃ wo : World, wo = wr := ⟨_, rfl⟩
    have hnz : (n : Int) ≤ 20000 := by omega
    by_cases hlt : k < rows.length ∧ k < 2100
    · obtain ⟨hlt, hlt2⟩ := hlt
      have hkz : (k : Int) < rows.length := by omega
      have hkz2 : (k : Int) < 2100 := by omega
      obtain ⟨b, off, r, rfl, hb, d00, hr, HE⟩ := HX.out.elem hlt
      have D0 := Lib.hid d00
      have d0 := (HB.out.cell (p := ⟨b, off + k, none⟩) hb).trans D0.out
      have hrl := hr.hdr.le
      have HR := Lib.hid hr.strs
      have HCT : Hid (costA (rows.take (k + 1)) = costA (rows.take k) + costL r.xs) := Lib.hid (by rw [costA_take hlt, HE.out])
      have HMT : Hid (rows.take (k + 1) = rows.take k ++ [r]) := Lib.hid (by rw [take_next (d := default) rows hlt, HE.out])
      have HLT := Lib.hid hlt
      have HLT2 := Lib.hid hlt2
      obtain ⟨ra, rc, xs⟩ := r
      dsimp only at d0 hrl HR D0 HCT
      clear hr hlt hlt2 d00
      by_cases h80 : 80 < xs.length
      · have h80z : (80 : Int) < xs.length := by omega
        clear h80
        go_wp2_with fail
        go_ret
        exact ⟨true, rfl, fun e => (by cases e), HB.out⟩
      · have h80z : ¬ (80 : Int) < xs.length := by omega
        have H80 := Lib.hid h80
        clear h80
        go_wp2_with fail
        have hnz1 : (n : Int) + 1 ≤ 20001 := by omega
        go_loopw [5, 7] (fun v i wx => ∃ j s : Nat, j ≤ xs.length ∧ i = .int .i64 j ∧ v = .int .i64 s ∧ s ≤ 20001 + 100001 * j ∧ Hid (s = n + 1 + ((xs.take j).map costW).sum) ∧ Hid (Below w.heap.size w wx)) (fun _ i _ => xs.length - (intOf i).toNat)
        case atStart => exact ⟨0, n + 1, Nat.zero_le _, rfl, by go_num, by omega, Lib.hid rfl, HB⟩
        case round =>
          obtain ⟨j, s, hj, rfl, rfl, hs, HS, HBX⟩ := hrel
          obtain ⟨wx, rfl⟩ : ∃ wx : World, wx = wr := ⟨_, rfl⟩
          have e0 := (HBX.out.cell (p := ⟨b, off + k, none⟩) hb).trans D0.out
          have hsz : (s : Int) ≤ 9000000 := by omega
          by_cases hjl : j < xs.length
          · have hjz : (j : Int) < xs.length := by omega
            obtain ⟨b2, o2, x, rfl, hb2, v00, HEX⟩ := HR.out.elem hjl
            have v0 := (HBX.out.cell (p := ⟨b2, o2 + j, none⟩) hb2).trans v00
            have HCS : Hid (((xs.take (j + 1)).map costW).sum = ((xs.take j).map costW).sum + costW x) := Lib.hid (by rw [costS_take hjl, HEX.out])
            have HJL := Lib.hid hjl
            have HSB := Lib.hid hs
            clear v00 hjl hs
            by_cases hx : x.size ≤ 100000
            · have hxz : (x.size : Int) ≤ 100000 := by omega
              have HCW : Hid (costW x = 1 + x.size) := Lib.hid (by unfold costW; omega)
              have HXX := Lib.hid hx
              have hmn : min (x.size : Int) 100000 = x.size := by omega
              clear hx
              go_wp2_with fail
              go_roundw
              case rel => exact ⟨j + 1, s + 1 + x.size, by have := HJL.out; omega, by go_num, by go_num, by have := HSB.out; have := HXX.out; omega, Lib.hid (by rw [HCS.out, HCW.out, HS.out]; omega), HBX⟩
              case measure => simp [intOf]; have := HJL.out; omega
            · have hxz : (100000 : Int) < x.size := by omega
              have HCW : Hid (costW x = 100001) := Lib.hid (by unfold costW; omega)
              have hmn : min (x.size : Int) 100000 = 100000 := by omega
              clear hx
              go_wp2_with fail
              go_roundw
              case rel => exact ⟨j + 1, s + 1 + 100000, by have := HJL.out; omega, by go_num, by go_num, by have := HSB.out; omega, Lib.hid (by rw [HCS.out, HCW.out, HS.out]; omega), HBX⟩
              case measure => simp [intOf]; have := HJL.out; omega
          · obtain rfl : j = xs.length := by omega
            have HSK : Hid (s = costA (rows.take (k + 1))) := Lib.hid (by
              have h1 := HS.out
              rw [List.take_of_length_le (Nat.le_refl _)] at h1
              rw [h1, HCT.out, HN.out.1]
              unfold costL
              omega)
            clear hs
            by_cases hg : most < s
            · have hgz : (most : Int) < s := by omega
              clear hg
              go_wp2_with fail
              go_ret
              exact ⟨true, rfl, fun e => (by cases e), HBX.out⟩
            · have hgz : ¬ (most : Int) < s := by omega
              have HG := Lib.hid hg
              clear hg
              go_wp2_with fail
              go_roundw
              case rel => exact ⟨k + 1, s, by have := HLT.out; omega, by have := HLT2.out; omega, by go_num, rfl, by have := HG.out; omega, Lib.hid ⟨HSK.out, Nat.le_of_not_lt HG.out, fun q hq => by
                rw [HMT.out] at hq
                rcases List.mem_append.1 hq with hq | hq
                · exact HN.out.2.2 q hq
                · rw [List.mem_singleton.1 hq]; exact Nat.le_of_not_lt H80.out⟩, HBX⟩
              case measure => simp [intOf]; have := HLT.out; omega
    · by_cases h2 : 2000 < rows.length
      · have h2z : (2000 : Int) < rows.length := by omega
        by_cases hkl : k < rows.length
        · have hk2 : ¬ (k : Int) < 2100 := by omega
          have hk3 : (k : Int) < rows.length := by omega
          clear hlt h2 hkl
          go_wp2_with fail
          go_ret
          exact ⟨true, rfl, fun e => (by cases e), HB.out⟩
        · have hk3 : ¬ (k : Int) < rows.length := by omega
          clear hlt h2 hkl
          go_wp2_with fail
          go_ret
          exact ⟨true, rfl, fun e => (by cases e), HB.out⟩
      · have h2z : ¬ (2000 : Int) < rows.length := by omega
        obtain rfl : k = rows.length := by omega
        have H2 := Lib.hid h2
        clear hlt h2
        go_wp2_with fail
        go_ret
        refine ⟨false, rfl, fun _ => ⟨Nat.le_of_not_lt H2.out, ?_, ?_⟩, HB.out⟩
        · have := HN.out.2.2
          rwa [List.take_of_length_le (Nat.le_refl _)] at this
        · have h3 := HN.out.1
          rw [List.take_of_length_le (Nat.le_refl _)] at h3
          rw [← h3]; exact HN.out.2.1
end Go.Proofs.Ytbkgcikhiomenaa
