/-
  The law's spoil: a memory of the call's own is written over.
-/
import Derived.Test.YthddacnnhmcoaaaMmProg6
namespace Go.Proofs.Ythddacnnhmcoaaa
set_option linter.unusedVariables false
set_option linter.unusedSimpArgs false
open Go.ChangeShapes Go.WideShapes Go.ChangeAt Go.RowKit

/-- Nothing turns from block H on. -/
def Above (H : Nat) (w w' : World) : Prop := w'.heap.size = w.heap.size ∧ ∀ k, H ≤ k → w'.heap[k]? = w.heap[k]?
theorem Above.refl (H : Nat) (w : World) : Above H w w := ⟨rfl, fun _ _ => rfl⟩
theorem Above.put {H : Nat} {w w' : World} (h : Above H w w') {g i : Nat} (hg : g < H) (v : Value) : Above H w (w'.setCell ⟨g, i, none⟩ v) :=
  ⟨by rw [size_set]; exact h.1, fun k hk => (Below.heap_setCell w' _ _ k (by show k ≠ g; omega)).trans (h.2 k hk)⟩
/-- A memory's blocks lie below H. -/
def Under (H : Nat) (A : Option Addr) (rows : List BkR) : Prop := (∀ g o, A = some ⟨g, o, none⟩ → rows ≠ [] → g < H) ∧ ∀ r ∈ rows, ∀ b o, r.ca = some ⟨b, o, none⟩ → 0 < r.cells.length → b < H
theorem Under.set {H : Nat} {A : Option Addr} {rows : List BkR} (h : Under H A rows) {k : Nat} (hk : k < rows.length) {r : BkR} (h1 : r.ca = (rows.getD k default).ca) (h2 : r.cells.length = (rows.getD k default).cells.length) : Under H A (rows.set k r) := by
  refine ⟨fun g o e hn => h.1 g o e (fun e2 => by rw [e2] at hk; exact absurd hk (Nat.not_lt_zero _)), fun x hx b o e hn => ?_⟩
  rcases List.mem_or_eq_of_mem_set hx with hx | rfl
  · exact h.2 x hx b o e hn
  · exact h.2 _ (mem_getD (d := default) hk) b o (by rw [← h1]; exact e) (by rw [← h2]; exact hn)
theorem MemOwn.under {w : World} {lo c : Nat} {A : Option Addr} {rows : List BkR} (h : MemOwn w lo A c rows) : Under w.heap.size A rows := by
  refine ⟨fun g o e hn => ?_, fun r hr b o e hn => ?_⟩
  · obtain ⟨g', e', _, ht⟩ := h.top (List.length_pos_iff.2 hn)
    rw [e] at e'
    injection e' with e'
    injection e' with e' _ _
    subst e'
    exact ht.lt
  · obtain ⟨i, hi, rfl⟩ := mem_at (d := default) hr
    obtain ⟨b', o', e', _, ht⟩ := h.val i hi hn
    rw [e] at e'
    injection e' with e'
    injection e' with e' _ _
    subst e'
    exact ht.lt
/-- A memory that lies from lo on is kept where nothing from lo on turns. -/
theorem MemOwn.far {w w' : World} {lo c : Nat} {A : Option Addr} {rows : List BkR} (h : MemOwn w lo A c rows) (ha : Above lo w w') : MemOwn w' lo A c rows := by
  have tb : ∀ {b : Nat} {t : TypeId}, lo ≤ b → TBlk w b t → TBlk w' b t := fun hb ⟨cur, e⟩ => ⟨cur, (ha.2 _ hb).trans e⟩
  refine ⟨⟨h.mem.hdr, ⟨fun hn => ?_, fun r hr => ⟨(h.mem.rows.ok r hr).hdr, fun hn => ?_⟩⟩⟩, fun hn => ?_, fun i hi hn => ?_, h.apart⟩
  · obtain ⟨b, off, e, h1, h2, hc⟩ := h.mem.rows.cells hn
    obtain ⟨g, e', hlo, _⟩ := h.top hn
    rw [e] at e'
    injection e' with e'
    injection e' with e' _ _
    subst e'
    exact ⟨b, off, e, h1, by rw [ha.1]; exact h2, fun i hi j hj => by rw [World.cell?_of_block (ha.2 b hlo)]; exact hc i hi j hj⟩
  · obtain ⟨b, off, e, h1, h2, hc⟩ := (h.mem.rows.ok r hr).vals hn
    obtain ⟨i, hi, hri⟩ := mem_at (d := default) hr
    obtain ⟨b', o', e', hlo, _⟩ := h.val i hi (by rw [hri]; exact hn)
    rw [hri, e] at e'
    injection e' with e'
    injection e' with e' _ _
    subst e'
    exact ⟨b, off, e, h1, by rw [ha.1]; exact h2, fun i hi j hj => by rw [World.cell?_of_block (ha.2 b hlo)]; exact hc i hi j hj⟩
  · obtain ⟨g, e', hlo, ht⟩ := h.top hn
    exact ⟨g, e', hlo, tb hlo ht⟩
  · obtain ⟨b, o, e', hlo, ht⟩ := h.val i hi hn
    exact ⟨b, o, e', hlo, tb hlo ht⟩
theorem MemOwn.above {w w' : World} {lo H c : Nat} {A : Option Addr} {rows : List BkR} (h : MemOwn w lo A c rows) (ha : Above H w w') (hH : H ≤ lo) : MemOwn w' lo A c rows := h.far ⟨ha.1, fun k hk => ha.2 k (by omega)⟩
theorem mfew_of {w : World} {A : Option Addr} {c : Nat} {rows : List BkR} (h : MemIn w A c rows) (hg : greatM rows = false) : MemFew w A c rows := by
  unfold greatM at hg
  rw [Bool.or_eq_false_iff, Bool.not_eq_false', decide_eq_false_iff_not] at hg
  obtain ⟨h1, h2⟩ := hg
  rw [List.take_of_length_le (by omega)] at h1
  refine ⟨h, by omega, fun r hr => ?_⟩
  have := List.all_eq_true.1 h1 r hr
  have := of_decide_eq_true this
  omega
/-- Few blocks, each of few cells. -/
def FewB (m : List Bk) : Prop := m.length ≤ 1000 ∧ ∀ b ∈ m, b.cells.length ≤ 1000
theorem FewB.of {w : World} {A : Option Addr} {c : Nat} {rows : List BkR} (h : MemFew w A c rows) : FewB (mmb rows) := by
  refine ⟨by rw [mmb_len]; exact h.few, fun b hb => ?_⟩
  obtain ⟨r, hr, rfl⟩ := List.mem_map.1 hb
  exact h.each r hr
theorem FewB.rows {m : List Bk} (h : FewB m) {rows : List BkR} (e : mmb rows = m) : rows.length ≤ 1000 ∧ ∀ r ∈ rows, r.cells.length ≤ 1000 := by
  subst e
  exact ⟨by have := h.1; rwa [mmb_len] at this, fun r hr => h.2 r.data (List.mem_map.2 ⟨r, hr, rfl⟩)⟩
theorem FewB.nil : FewB [] := ⟨Nat.zero_le _, fun b hb => by cases hb⟩
theorem FewB.set {m : List Bk} (h : FewB m) (i : Nat) {b : Bk} (hb : b.cells.length ≤ 1000) : FewB (m.set i b) := by
  refine ⟨by rw [List.length_set]; exact h.1, fun x hx => ?_⟩
  rcases List.mem_or_eq_of_mem_set hx with hx | rfl
  · exact h.2 x hx
  · exact hb
theorem FewB.blk {m : List Bk} (h : FewB m) (p : Vl) : (blkOf m p).cells.length ≤ 1000 := by
  unfold blkOf
  by_cases hi : (p.b - 1).toNat < m.length
  · exact h.2 _ (mem_getD (d := default) hi)
  · rw [List.getD_eq_getElem?_getD, List.getElem?_eq_none (by omega)]
    exact Nat.zero_le _
theorem FewB.store {m : List Bk} (h : FewB m) (p v : Vl) : FewB (storeM m p v) := by
  unfold storeM
  split
  · exact h.set _ (by show (List.set _ _ _).length ≤ _; rw [List.length_set]; exact h.blk p)
  · exact FewB.nil
theorem FewB.free {m : List Bk} (h : FewB m) (p : Vl) : FewB (freeM m p) := by
  unfold freeM
  split
  · exact h.set _ (h.blk p)
  · exact FewB.nil
theorem each_set {rows : List BkR} {r : BkR} {k N : Nat} (h : ∀ x ∈ rows, x.cells.length ≤ N) (hr : r.cells.length ≤ N) : ∀ x ∈ rows.set k r, x.cells.length ≤ N := by
  intro x hx
  rcases List.mem_or_eq_of_mem_set hx with hx | rfl
  · exact h x hx
  · exact hr
set_option maxHeartbeats 1600000 in
theorem spoil_any {w : World} {lo H : Nat} {A : Option Addr} {c : Nat} {rows : List BkR} (h : MemOwn w lo A c rows) (hu : Under H A rows) (hl : rows.length ≤ 1000) (he : ∀ r ∈ rows, r.cells.length ≤ 1000) :
    Calls Try.prog 18 #[.slice A rows.length c] w fun e w' => (∃ v, e = .returned v) ∧ Below lo w w' ∧ Above H w w' := by
  have HO := Lib.hid h
  have HE := Lib.hid he
  have HU := Lib.hid hu
  clear h he hu
  go_enter Try.func18, Try.ntmps18
  go_wp2_with fail
  go_loopw [2, 3] (fun i _ wr => ∃ (k : Nat) (cur : List BkR), k ≤ rows.length ∧ i = .int .i64 k ∧ cur.length = rows.length ∧ Hid (∀ r ∈ cur, r.cells.length ≤ 1000) ∧ Hid (MemOwn wr lo A c cur) ∧ Hid (Below lo w wr) ∧ Hid (Under H A cur ∧ Above H w wr)) (fun i _ _ => rows.length - (intOf i).toNat)
  case atStart => exact ⟨0, rows, Nat.zero_le _, rfl, rfl, HE, HO, Lib.hid (Below.refl _ _), Lib.hid ⟨HU.out, Above.refl _ _⟩⟩
  case round =>
    obtain ⟨k, cur, hk, rfl, hcl, HCE, HCO, HCB, HCU⟩ := hrel
    have HCL := Lib.hid hcl
    clear hcl
    by_cases hlt : k < rows.length
    · have hkc : k < cur.length := by rw [HCL.out]; exact hlt
      have HKC := Lib.hid hkc
      obtain ⟨n, hn⟩ : ∃ n, (cur.getD k default).cells.length = n := ⟨_, rfl⟩
      have hn2 : n ≤ 1000 := by rw [← hn]; exact HCE.out _ (mem_getD (d := default) hkc)
      have HN := Lib.hid hn
      clear hn hkc
      go_wp2_with fail
      go_loopw [3] (fun i wo => ∃ (j : Nat) (cur2 : List BkR), j ≤ n ∧ i = .int .i64 j ∧ cur2.length = rows.length ∧ Hid (∀ r ∈ cur2, r.cells.length ≤ 1000) ∧ Hid ((cur2.getD k default).cells.length = n) ∧ Hid (MemOwn wo lo A c cur2) ∧ Hid (Below lo w wo) ∧ Hid (Under H A cur2 ∧ Above H w wo)) (fun i _ => n - (intOf i).toNat)
      case atStart => exact ⟨0, cur, Nat.zero_le _, rfl, HCL.out, HCE, HN, HCO, HCB, HCU⟩
      case round =>
        obtain ⟨j, cur2, hj, rfl, hcl2, HCE2, HN2, HCO2, HCB2, HCU2⟩ := hrel
        have HCL2 := Lib.hid hcl2
        have hkc2 : k < cur2.length := by rw [hcl2]; exact hlt
        clear hcl2
        obtain ⟨g, hA, hlog, htg⟩ := HCO2.out.top (by omega)
        obtain ⟨bb, off, hA2, hbk, d0, d1, d2, d3, d4⟩ := (HCO2.out.mem.rows.elem hkc2).at_
        rw [hA] at hA2
        injection hA2 with hA2
        injection hA2 with ex1 ex2 _
        subst ex1 ex2
        subst hA
        rw [Nat.zero_add] at d0 d1 d2 d3 d4
        rw [HN2.out] at d4
        by_cases hj2 : j < n
        · obtain ⟨b, o, hca, hlo, hbl, hcell, hfro, hnew⟩ := HCO2.out.putVal (i := k) (k := j) (j := 0) hkc2 (by rw [HN2.out]; exact hj2) (by omega) { (cur2.getD k default).cells.getD j default with k := 9 } (fun q hq hne => by
            match q, hq with
            | 0, _ => exact absurd rfl hne
            | 1, _ => rfl
            | 2, _ => rfl
            | 3, _ => rfl)
          rw [hca] at d4
          rw [Nat.add_zero] at hcell hfro hnew
          have hbn : (cur2.getD k default).cells.length ≤ 1000 := HCE2.out _ (mem_getD (d := default) hkc2)
          have HNEW : Hid (MemOwn (wr.setCell ⟨b, o + j * 4, none⟩ (.int .u8 9)) lo (some ⟨g, 0, none⟩) c (cur2.set k { cur2.getD k default with cells := (cur2.getD k default).cells.set j { (cur2.getD k default).cells.getD j default with k := 9 } })) := Lib.hid hnew
          have HBN : Hid (Below lo w (wr.setCell ⟨b, o + j * 4, none⟩ (.int .u8 9))) := Lib.hid (HCB2.out.setCell (p := ⟨b, o + j * 4, none⟩) hlo _)
          have HUN : Hid (Under H (some ⟨g, 0, none⟩) (cur2.set k { cur2.getD k default with cells := (cur2.getD k default).cells.set j { (cur2.getD k default).cells.getD j default with k := 9 } }) ∧ Above H w (wr.setCell ⟨b, o + j * 4, none⟩ (.int .u8 9))) := Lib.hid ⟨HCU2.out.1.set hkc2 rfl (by show (List.set _ _ _).length = _; rw [List.length_set]), HCU2.out.2.put (HCU2.out.1.2 _ (mem_getD (d := default) hkc2) b o hca (by rw [HN2.out]; omega)) _⟩
          have HEN := Lib.hid (each_set (k := k) HCE2.out (r := { cur2.getD k default with cells := (cur2.getD k default).cells.set j { (cur2.getD k default).cells.getD j default with k := 9 } }) (by show (List.set _ _ _).length ≤ _; rw [List.length_set]; exact hbn))
          have HLN : Hid (((cur2.set k { cur2.getD k default with cells := (cur2.getD k default).cells.set j { (cur2.getD k default).cells.getD j default with k := 9 } }).getD k default).cells.length = n) := Lib.hid (by rw [getD_set_eq _ _ hkc2]; show (List.set _ _ _).length = _; rw [List.length_set]; exact HN2.out)
          have HSL : Hid ((cur2.set k { cur2.getD k default with cells := (cur2.getD k default).cells.set j { (cur2.getD k default).cells.getD j default with k := 9 } }).length = rows.length) := Lib.hid (by rw [List.length_set]; exact HCL2.out)
          generalize cur2.set k { cur2.getD k default with cells := (cur2.getD k default).cells.set j { (cur2.getD k default).cells.getD j default with k := 9 } } = cur3 at HNEW HEN HLN HSL HUN
          generalize ((cur2.getD k default).cells.getD j default).cell 0 = z at hcell
          generalize (cur2.getD k default).cc = cc at d4
          clear hnew hca d0 d1 d2 d3 hbn hlog htg
          go_wp2_with fail
          go_roundw
          case rel => exact ⟨j + 1, cur3, by omega, by go_num, HSL.out, HEN, HLN, HNEW, HBN, HUN⟩
          case measure => simp [intOf]; omega
        · obtain ⟨g2, hA3, hlo, hg2, hcell, hfro, hput⟩ := HCO2.out.putRow (i := k) (j := 0) hkc2 (by omega) { cur2.getD k default with site := -7 } rfl rfl rfl (fun q hq hne => by
            match q, hq with
            | 0, _ => exact absurd rfl hne
            | 1, _ => rfl
            | 2, _ => rfl
            | 3, _ => rfl
            | 4, _ => rfl)
          injection hA3 with hA3
          injection hA3 with ex1 _ _
          subst ex1
          rw [Nat.add_zero] at hcell hfro hput
          have HNEW : Hid (MemOwn (wr.setCell ⟨g, k * 5, none⟩ (.int .i64 (-7))) lo (some ⟨g, 0, none⟩) c (cur2.set k { cur2.getD k default with site := -7 })) := Lib.hid hput
          have HBN : Hid (Below lo w (wr.setCell ⟨g, k * 5, none⟩ (.int .i64 (-7)))) := Lib.hid (HCB2.out.setCell (p := ⟨g, k * 5, none⟩) hlo _)
          have HUN : Hid (Under H (some ⟨g, 0, none⟩) (cur2.set k { cur2.getD k default with site := -7 }) ∧ Above H w (wr.setCell ⟨g, k * 5, none⟩ (.int .i64 (-7)))) := Lib.hid ⟨HCU2.out.1.set hkc2 rfl rfl, HCU2.out.2.put (HCU2.out.1.1 g 0 rfl (by intro e; rw [e] at hkc2; exact absurd hkc2 (Nat.not_lt_zero _))) _⟩
          have HEN := Lib.hid (each_set (k := k) HCE2.out (r := { cur2.getD k default with site := -7 }) (by show (cur2.getD k default).cells.length ≤ 1000; exact HCE2.out _ (mem_getD (d := default) hkc2)))
          have HSL : Hid ((cur2.set k { cur2.getD k default with site := -7 }).length = rows.length) := Lib.hid (by rw [List.length_set]; exact HCL2.out)
          generalize cur2.set k { cur2.getD k default with site := -7 } = cur3 at HNEW HEN HSL HUN
          generalize (cur2.getD k default).cell 0 = z at hcell
          generalize (cur2.getD k default).ca = ca at d4
          generalize (cur2.getD k default).cc = cc at d4
          clear hput d0 d1 d2 d3 hlog htg
          go_wp2_with fail
          go_roundw
          case rel => exact ⟨k + 1, cur3, by omega, by go_num, HSL.out, HEN, HNEW, HBN, HUN⟩
          case measure => simp [intOf]; omega
    · go_wp2_with fail
      refine bodyPost_end (results_none rfl _ _ _) rfl ?_
      exact ⟨⟨_, rfl⟩, HCB.out, HCU.out.2⟩
end Go.Proofs.Ythddacnnhmcoaaa
