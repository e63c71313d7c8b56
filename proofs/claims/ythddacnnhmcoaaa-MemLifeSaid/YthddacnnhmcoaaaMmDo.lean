/-
  The reference's answers for memories: what is freed, and what frames' ends leave.
-/
import Derived.Test.YthddacnnhmcoaaaMmRef3
import Derived.Test.YthddacnnhmcoaaaMmTwin
namespace Go.Proofs.Ythddacnnhmcoaaa
set_option linter.unusedVariables false
set_option linter.unusedSimpArgs false
open Go.ChangeShapes Go.WideShapes Go.ChangeAt Go.RowKit

def SomeMemE (m : List Bk) (er : Int) (w : World) (e : Ending) (w' : World) : Prop := ∃ A c rows, e = .returned (.tuple #[.slice A rows.length c, .int .i64 er]) ∧ MemOwn w' w.heap.size A c rows ∧ mmb rows = m ∧ Below w.heap.size w w'
theorem SomeMemE.none {w w' : World} {er : Int} {B : Nat} (hb : Below w.heap.size w w') : SomeMemE [] er w (.returned (.tuple #[.slice Option.none 0 0, .int .i64 er])) w' := ⟨Option.none, 0, [], rfl, MemOwn.nil _ _, rfl, hb⟩
theorem mmb_set (rows : List BkR) (i : Nat) (r : BkR) : mmb (rows.set i r) = (mmb rows).set i r.data := by unfold mmb; rw [List.map_set]
/-- A value laid whole. -/
theorem MemOwn.putWhole {w : World} {lo c : Nat} {A : Option Addr} {rows : List BkR} (h : MemOwn w lo A c rows) {i k : Nat} (hi : i < rows.length) (hk : k < (rows.getD i default).cells.length) (u : Vl) :
    ∃ b o, (rows.getD i default).ca = some ⟨b, o, none⟩ ∧ lo ≤ b ∧ b < w.heap.size ∧ (∀ j, j < 4 → w.cell? ⟨b, o + k * 4 + j, none⟩ = some (((rows.getD i default).cells.getD k default).cell j)) ∧ (∀ j, w.frozen? ⟨b, j, none⟩ = false) ∧ TBlk w b 29 ∧
      MemOwn ((((w.setCell ⟨b, o + k * 4 + 0, none⟩ (.int .u8 u.k)).setCell ⟨b, o + k * 4 + 1, none⟩ (.int .i64 u.n)).setCell ⟨b, o + k * 4 + 2, none⟩ (.int .i64 u.b)).setCell ⟨b, o + k * 4 + 3, none⟩ (.int .i64 u.t)) lo A c (rows.set i { rows.getD i default with cells := (rows.getD i default).cells.set k u }) := by
  obtain ⟨b, o, hca, hlo, hb⟩ := h.val i hi (by omega)
  have hcell : ∀ j, j < 4 → w.cell? ⟨b, o + k * 4 + j, none⟩ = some (((rows.getD i default).cells.getD k default).cell j) := fun j hj => by
    obtain ⟨b2, o2, e2, _, _, hc⟩ := (h.mem.row hi).vals (by omega)
    rw [hca] at e2
    injection e2 with e2
    injection e2 with e3 e4 _
    subst e3 e4
    exact hc k hk j hj
  have step : ∀ (W : World) (v0 v1 : Vl) (j : Nat), j < 4 → (∀ q, q < 4 → q ≠ j → v1.cell q = v0.cell q) →
      MemOwn W lo A c (rows.set i { rows.getD i default with cells := (rows.getD i default).cells.set k v0 }) →
      MemOwn (W.setCell ⟨b, o + k * 4 + j, none⟩ (v1.cell j)) lo A c (rows.set i { rows.getD i default with cells := (rows.getD i default).cells.set k v1 }) := fun W v0 v1 j hj hq hW => by
    have e1 : (rows.set i { rows.getD i default with cells := (rows.getD i default).cells.set k v0 }).getD i default = { rows.getD i default with cells := (rows.getD i default).cells.set k v0 } := getD_set_eq _ _ hi
    have e2 : ((rows.getD i default).cells.set k v0).getD k default = v0 := getD_set_eq _ _ hk
    obtain ⟨b2, o2, h1, _, _, _, _, h2⟩ := hW.putVal (i := i) (k := k) (j := j) (by rw [List.length_set]; exact hi) (by rw [e1]; show k < (List.set _ _ _).length; rw [List.length_set]; exact hk) hj v1 (by rw [e1]; show ∀ q, q < 4 → q ≠ j → v1.cell q = Vl.cell ((List.set _ _ _).getD k default) q; rw [e2]; exact hq)
    rw [e1] at h1 h2
    have h1' : (rows.getD i default).ca = some ⟨b2, o2, none⟩ := h1
    rw [hca] at h1'
    injection h1' with h1'
    injection h1' with e3 e4 _
    subst e3 e4
    rw [List.set_set] at h2
    have e5 : ({ ({ rows.getD i default with cells := (rows.getD i default).cells.set k v0 } : BkR) with cells := ((rows.getD i default).cells.set k v0).set k v1 } : BkR) = { rows.getD i default with cells := (rows.getD i default).cells.set k v1 } := by rw [List.set_set]
    rw [e5] at h2
    exact h2
  have h0 : MemOwn w lo A c (rows.set i { rows.getD i default with cells := (rows.getD i default).cells.set k ((rows.getD i default).cells.getD k default) }) := by
    have e1 : (rows.getD i default).cells.set k ((rows.getD i default).cells.getD k default) = (rows.getD i default).cells := by rw [getD_lt _ hk]; exact List.set_getElem_self hk
    have e2 : rows.set i (rows.getD i default) = rows := by rw [getD_lt _ hi]; exact List.set_getElem_self hi
    rw [e1]
    have e3 : ({ rows.getD i default with cells := (rows.getD i default).cells } : BkR) = rows.getD i default := rfl
    rw [e3, e2]
    exact h
  obtain ⟨v, hvv⟩ : ∃ v, (rows.getD i default).cells.getD k default = v := ⟨_, rfl⟩
  rw [hvv] at h0
  have h1 := step w v ⟨u.k, v.n, v.b, v.t⟩ 0 (by omega) (fun q hq hne => by
    match q, hq with
    | 0, _ => exact absurd rfl hne
    | 1, _ => rfl
    | 2, _ => rfl
    | 3, _ => rfl) h0
  have h2 := step _ ⟨u.k, v.n, v.b, v.t⟩ ⟨u.k, u.n, v.b, v.t⟩ 1 (by omega) (fun q hq hne => by
    match q, hq with
    | 0, _ => rfl
    | 1, _ => exact absurd rfl hne
    | 2, _ => rfl
    | 3, _ => rfl) h1
  have h3 := step _ ⟨u.k, u.n, v.b, v.t⟩ ⟨u.k, u.n, u.b, v.t⟩ 2 (by omega) (fun q hq hne => by
    match q, hq with
    | 0, _ => rfl
    | 1, _ => rfl
    | 2, _ => exact absurd rfl hne
    | 3, _ => rfl) h2
  have h4 := step _ ⟨u.k, u.n, u.b, v.t⟩ u 3 (by omega) (fun q hq hne => by
    match q, hq with
    | 0, _ => rfl
    | 1, _ => rfl
    | 2, _ => rfl
    | 3, _ => exact absurd rfl hne) h3
  exact ⟨b, o, hca, hlo, hb.lt, hcell, hb.free, hb, h4⟩

section
variable {w : World} {A : Option Addr} {c : Nat} {rows : List BkR}
theorem free_eq {m : List Bk} {p : Vl} (hm : mayM m = true) : freeE m p = if ptrM m p ≠ 0 then ptrM m p else if 0 < (blkOf m p).depth ∨ 0 < p.t then 143 else if (blkOf m p).alive = false then 142 else 0 := by
  unfold freeE; rw [if_neg (by rw [hm]; simp)]
set_option maxHeartbeats 1600000 in
/-- On a memory that may be. -/
theorem rfreed_any (h : MemFew w A c rows) (p : Vl) {e0 : Int} {m0 : List Bk} (he : freeE (mmb rows) p = e0) (hv : freeM (mmb rows) p = m0) (hm : mayM (mmb rows) = true) :
    Calls Try.prog 58 #[.slice A rows.length c, valV p.k p.n p.b p.t] w (SomeMemE m0 e0 w) := by
  have hl := h.mem.len
  have hb0 : Below w.heap.size w (w.alloc (.cells #[.int .u8 p.k, .int .i64 p.n, .int .i64 p.b, .int .i64 p.t] 29)) := (Below.refl _ _).alloc (Nat.le_refl _) _
  have HB0 := Lib.hid hb0
  have HX := Lib.hid (h.on hb0)
  have HK := Lib.hid (Blk.new w 29 #[.int .u8 p.k, .int .i64 p.n, .int .i64 p.b, .int .i64 p.t])
  have hE := free_eq (p := p) hm
  have hV : freeM (mmb rows) p = if e0 = 0 then (mmb rows).set (p.b - 1).toNat (deadB (blkOf (mmb rows) p)) else [] := by unfold freeM; rw [he]
  rw [he] at hE
  rw [hv] at hV
  obtain ⟨pe, hpe⟩ : ∃ pe, ptrM (mmb rows) p = pe := ⟨_, rfl⟩
  have HC := Lib.hid (rpointer_is HX.out.mem p hpe)
  rw [hpe] at hE
  by_cases h0 : pe = 0
  · subst h0
    obtain ⟨i, q, r, hs⟩ := spot_of hpe
    have HS := Lib.hid hs
    rw [if_neg (by simp), hs.blk] at hE
    rw [hs.blk] at hV
    have hlt := hs.lt
    obtain ⟨bb, off, hA, hbk, d0, d1, d2, d3, d4⟩ := (h.mem.rows.elem hs.lt).at_
    rw [hs.get] at d0 d1 d2 d3 d4
    obtain ⟨al, hal⟩ : ∃ al, r.alive = al := ⟨_, rfl⟩
    have hal2 : r.data.alive = al := hal
    have hdd : r.data.depth = r.depth := rfl
    rw [hal] at d3
    rw [hal2, hdd, hs.tq] at hE
    subst hA
    have hbd1 : 1 ≤ p.b := by have := hs.bi; omega
    have hbd2 : p.b ≤ rows.length := by have := hs.bi; omega
    have HE := Lib.hid hE
    have HV := Lib.hid hV
    have HHV := Lib.hid hv
    by_cases hbad : 0 < r.depth ∨ 0 < (q : Int)
    · obtain rfl : e0 = 143 := by rw [hE, if_pos hbad]
      obtain rfl : m0 = [] := by rw [hV]; rfl
      clear h hb0 hE hV hm hpe hs hal hal2 hdd he hv
      by_cases hb1 : 0 < r.depth
      all_goals
        go_enter Try.func58, Try.ntmps58
        go_wp2_with fail
        refine HC.out.mono ?_
        rintro e w1 ⟨rfl, hb⟩
        have k2 : w1.cell? ⟨w.heap.size, 2, none⟩ = some (.int .i64 p.b) := (HK.out.beneath hb).cells 2
        have k3 : w1.cell? ⟨w.heap.size, 3, none⟩ = some (.int .i64 p.t) := (HK.out.beneath hb).cells 3
        rw [HS.out.tq] at k3
        have HB1 := Lib.hid (HB0.out.trans (hb.mono HB0.out.size))
        have g2 := (HB1.out.cell (p := ⟨bb, off + i * 5 + 2, none⟩) hbk).trans d2
        have hbi := HS.out.bi
        clear hb d0 d1 d2 d3 d4
      · clear hbad
        go_wp2_with fail
        go_ret2
        exact SomeMemE.none (B := 0) HB1.out
      · have hq1 : 0 < (q : Int) := by omega
        clear hbad
        go_wp2_with fail
        go_ret2
        exact SomeMemE.none (B := 0) HB1.out
    · rw [if_neg hbad] at hE
      have hb1 : r.depth ≤ 0 := by omega
      have hb2 : q = 0 := by omega
      cases al with
      | false =>
        obtain rfl : e0 = 142 := by rw [hE]; rfl
        obtain rfl : m0 = [] := by rw [hV]; rfl
        clear h hb0 hE hV hm hpe hs hal hal2 hdd he hv hbad
        go_enter Try.func58, Try.ntmps58
        go_wp2_with fail
        refine HC.out.mono ?_
        rintro e w1 ⟨rfl, hb⟩
        have k2 : w1.cell? ⟨w.heap.size, 2, none⟩ = some (.int .i64 p.b) := (HK.out.beneath hb).cells 2
        have k3 : w1.cell? ⟨w.heap.size, 3, none⟩ = some (.int .i64 p.t) := (HK.out.beneath hb).cells 3
        rw [HS.out.tq, hb2] at k3
        have HB1 := Lib.hid (HB0.out.trans (hb.mono HB0.out.size))
        have g2 := (HB1.out.cell (p := ⟨bb, off + i * 5 + 2, none⟩) hbk).trans d2
        have g3 := (HB1.out.cell (p := ⟨bb, off + i * 5 + 3, none⟩) hbk).trans d3
        have hbi := HS.out.bi
        clear hb d0 d1 d2 d3 d4 hb2
        go_wp2_with fail
        go_ret2
        exact SomeMemE.none (B := 0) HB1.out
      | true =>
        obtain rfl : e0 = 0 := by rw [hE]; rfl
        have hV2 : m0 = (mmb rows).set i (deadB r.data) := by rw [hV, if_pos rfl, hs.bi, Int.toNat_natCast]
        have HV2 := Lib.hid hV2
        have HGET := Lib.hid hs.get
        clear h hb0 hE hV hV2 hm hpe hs hal hal2 hdd he hv hbad
        go_enter Try.func58, Try.ntmps58
        go_wp2_with fail
        refine HC.out.mono ?_
        rintro e w1 ⟨rfl, hb⟩
        have HK1 := Lib.hid (HK.out.beneath hb)
        have k2 : w1.cell? ⟨w.heap.size, 2, none⟩ = some (.int .i64 p.b) := (HK.out.beneath hb).cells 2
        have k3 : w1.cell? ⟨w.heap.size, 3, none⟩ = some (.int .i64 p.t) := (HK.out.beneath hb).cells 3
        rw [HS.out.tq, hb2] at k3
        have HB1 := Lib.hid (HB0.out.trans (hb.mono HB0.out.size))
        have g2 := (HB1.out.cell (p := ⟨bb, off + i * 5 + 2, none⟩) hbk).trans d2
        have g3 := (HB1.out.cell (p := ⟨bb, off + i * 5 + 3, none⟩) hbk).trans d3
        have hbi := HS.out.bi
        have HT := Lib.hid (rtwinm_any (HX.out.on hb))
        clear hb d0 d1 d2 d3 d4 hb2
        go_wp2_with fail
        refine HT.out.mono ?_
        rintro e w2 ⟨v2, rows2, rfl, hown2, hm2, hb⟩
        obtain ⟨A2, c2, rfl, hmo⟩ := hown2.own
        have hl2 : rows2.length = rows.length := by have := congrArg List.length hm2; rwa [mmb_len, mmb_len] at this
        have j2 : w2.cell? ⟨w.heap.size, 2, none⟩ = some (.int .i64 p.b) := (HK1.out.beneath hb).cells 2
        have hd2 : (rows2.getD i default).data = r.data := by rw [← mmb_at (by omega), hm2, mmb_at hlt, HGET.out]
        obtain ⟨g, hA2, hlo2, hg2, hcell, hfro, hput⟩ := hmo.putRow (i := i) (j := 3) (by omega) (by omega) { rows2.getD i default with alive := false } rfl rfl rfl (fun q hq hne => by
          match q, hq with
          | 0, _ => rfl
          | 1, _ => rfl
          | 2, _ => rfl
          | 3, _ => exact absurd rfl hne
          | 4, _ => rfl)
        subst hA2
        have HP := Lib.hid (hput.more (by have := HB1.out.size; omega : w.heap.size ≤ w1.heap.size))
        have HB2 := Lib.hid ((HB1.out.trans (hb.mono HB1.out.size)).setCell (p := ⟨g, i * 5 + 3, none⟩) (by show w.heap.size ≤ g; have := HB1.out.size; omega) (.bool false))
        have HD2 := Lib.hid hd2
        have HM2 := Lib.hid hm2
        have hlt2 : i < rows2.length := by omega
        have HL2 := Lib.hid hl2
        rw [← hl2] at hbd2
        clear hown2 hmo hm2 hb k2 k3 g2 g3 hd2 hput hl2
        generalize hcv : (rows2.getD i default).cell 3 = cv at hcell
        go_wp2_with fail
        go_ret2
        refine ⟨some ⟨g, 0, none⟩, c2, rows2.set i { rows2.getD i default with alive := false }, by rw [List.length_set]; rfl, HP.out, ?_, HB2.out⟩
        rw [mmb_set, HM2.out, HV2.out]
        congr 1
        show (⟨_, _, _, false, _⟩ : Bk) = deadB r.data
        rw [← HD2.out]; rfl
  · obtain rfl : e0 = pe := by rw [hE, if_pos h0]
    obtain rfl : m0 = [] := by rw [hV, if_neg h0]
    clear h hb0 hE hV hm hpe he hv
    go_enter Try.func58, Try.ntmps58
    go_wp2_with fail
    refine HC.out.mono ?_
    rintro e w1 ⟨rfl, hb⟩
    have HB1 := Lib.hid (HB0.out.trans (hb.mono HB0.out.size))
    clear hb
    go_wp2_with fail
    go_ret2
    exact SomeMemE.none (B := 0) HB1.out
end
end Go.Proofs.Ythddacnnhmcoaaa
