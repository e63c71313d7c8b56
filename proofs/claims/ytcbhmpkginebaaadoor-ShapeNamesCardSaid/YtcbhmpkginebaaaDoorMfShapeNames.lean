/-
  The walk of ShapeNames.
-/
import Derived.Test.YtcbhmpkginebaaaDoorMg14
import Derived.Test.YtcbhmpkginebaaaDoorMfShOdd
import Derived.Test.YtcbhmpkginebaaaDoorMfTypTwin
namespace Go.Proofs.YtcbhmpkginebaaaDoor
set_option linter.unusedVariables false
set_option linter.unusedSimpArgs false
open Go.ChangeShapes Go.WideShapes Go.ChangeAt Go.RowKit

theorem odd_val {w : World} (x : InR) {v : Value} (hx : x.Ok w) (h1 : x.args.length ≤ 1000) (h2 : x.from_.length ≤ 1000) (hc : checkP (chapP x.data 0 1 true) = 60) (ht : TabW w) (hv : x.val = v) :
    Calls Tryd.prog 24 #[v] w fun e w' => e = .returned (.bool true) ∧ Below w.heap.size w w' := hv ▸ odd_any x hx h1 h2 hc ht
theorem plain_ok (w : World) (op : Nat) (ty a b n : Int) (h : op ≤ 255) : InR.Ok w ⟨op, ty, a, b, n, none, 0, [], none, 0, []⟩ := ⟨h, hdr_none, ints_none, hdr_none, ints_none⟩
theorem args_ok {w : World} {g : Nat} {xs : List Int} {cs : Array Value} {t : TypeId} {fr : Nat × Nat} (op : Nat) (ty a b n : Int) (h : op ≤ 255) (hb : w.heap[g]? = some (.cells cs t fr)) (hcs : cs = (xs.map (Value.int .i64)).toArray) (hl : xs.length ≤ 1000) :
    InR.Ok w ⟨op, ty, a, b, n, some ⟨g, 0, none⟩, xs.length, xs, none, 0, []⟩ := by
  obtain ⟨h1, h2⟩ := ints_block hb hcs (Nat.le_trans hl (by omega))
  exact ⟨h, h1, h2, hdr_none, ints_none⟩
theorem make5 (w : World) : (Instr.makeSlice 22 (.int .i64 5) (.int .i64 5)).run Tryd.prog w = .ok (.slice (some ⟨w.heap.size, 0, none⟩) 5 5) (w.alloc (.cells #[.int .i64 0, .int .i64 0, .int .i64 0, .int .i64 0, .int .i64 0] 3)) := by
  obtain ⟨i0, hi, hz0, hz1, hz2⟩ := info_parts intInfo
  have h := run_makeSlice (P := Tryd.prog) w 22 3 i0 _ Tryd.underlying22 hi hz0 .i64 .i64 5 5 (by omega) (Int.le_refl _) (by rw [hz1]; decide) (by rw [hz2]; decide) (by omega)
  rw [hz1] at h
  refine h.trans ?_
  have : madeCells (Value.int .i64 0).cells (Int.toNat 5 * 1) = #[.int .i64 0, .int .i64 0, .int .i64 0, .int .i64 0, .int .i64 0] := by
    apply Array.ext
    · simp [size_madeCells]
    · intro i h1 h2
      simp [madeCells, Value.cells, Nat.mod_one]
      have : i = 0 ∨ i = 1 ∨ i = 2 ∨ i = 3 ∨ i = 4 := by simp [size_madeCells] at h1; omega
      rcases this with rfl | rfl | rfl | rfl | rfl <;> rfl
  rw [this]
  rfl
theorem Chap.far {w : World} {g k j : Nat} {x : InR} {tgt sig : Int} {two : Bool} (h : Chap w g x tgt sig two) (hk : k < g + 1 ∨ g + 7 < k) (u : Value) : Chap (w.setCell ⟨k, j, none⟩ u) g x tgt sig two :=
  ⟨h.b1.far (by show g + 1 ≠ k; omega) u, h.b3.far (by show g + 3 ≠ k; omega) u, h.b5.far (by show g + 5 ≠ k; omega) u, h.b6.far (by show g + 6 ≠ k; omega) u, h.b7.far (by show g + 7 ≠ k; omega) u⟩
theorem Chap.setSig {w : World} {g : Nat} {x : InR} {tgt sig : Int} {two : Bool} (h : Chap w g x tgt sig two) (s : Int) : Chap (w.setCell ⟨g + 7, 0, none⟩ (.int .i64 s)) g x tgt s two :=
  ⟨h.b1.far (by show g + 1 ≠ g + 7; omega) _, h.b3.far (by show g + 3 ≠ g + 7; omega) _, h.b5.far (by show g + 5 ≠ g + 7; omega) _, h.b6.far (by show g + 6 ≠ g + 7; omega) _, h.b7.put 0 _⟩
theorem Chap.setTo {w : World} {g : Nat} {x : InR} {tgt sig : Int} {two : Bool} (h : Chap w g x tgt sig two) (s : Int) : Chap (w.setCell ⟨g + 6, 8, none⟩ (.int .i64 s)) g x s sig two :=
  ⟨h.b1.far (by show g + 1 ≠ g + 6; omega) _, h.b3.far (by show g + 3 ≠ g + 6; omega) _, h.b5.far (by show g + 5 ≠ g + 6; omega) _, h.b6.put 8 _, h.b7.far (by show g + 7 ≠ g + 6; omega) _⟩
theorem Chap.setNil {w : World} {g : Nat} {x : InR} {tgt sig : Int} {two : Bool} (h : Chap w g x tgt sig two) : Chap (w.setCell ⟨g + 7, 1, none⟩ (.slice none 0 0)) g x tgt sig false :=
  ⟨h.b1.far (by show g + 1 ≠ g + 7; omega) _, h.b3.far (by show g + 3 ≠ g + 7; omega) _, h.b5.far (by show g + 5 ≠ g + 7; omega) _, h.b6.far (by show g + 6 ≠ g + 7; omega) _, h.b7.put 1 _⟩
def made17 : Array Value := madeCells (Value.agg #[.int .u8 0, .int .i64 0, .int .i64 0, .slice none 0 0]).cells 68
theorem make17 (w : World) : (Instr.makeSlice 32 (.int .i64 17) (.int .i64 17)).run Tryd.prog w = .ok (.slice (some ⟨w.heap.size, 0, none⟩) 17 17) (w.alloc (.cells made17 78)) := by
  obtain ⟨i0, hi, hz0, hz1, hz2⟩ := info_parts typeInfo
  have h := run_makeSlice (P := Tryd.prog) w 32 78 i0 _ Tryd.underlying32 hi hz0 .i64 .i64 17 17 (by omega) (Int.le_refl _) (by rw [hz1]; decide) (by rw [hz2]; decide) (by omega)
  rw [hz1] at h
  exact h
theorem made17_at (i j : Nat) (hi : i < 17) (hj : j < 4) : made17[0 + i * 4 + j]? = some (TyR.cell ⟨0, 0, 0, none, 0, []⟩ j) := by
  have hq : (0 + i * 4 + j) % 4 = j := by omega
  have hl : 0 + i * 4 + j < 68 := by omega
  unfold made17 madeCells
  rw [Array.getElem?_map, Array.getElem?_eq_getElem (by simpa using hl)]
  simp only [Array.getElem_range, Option.map_some, Value.cells]
  have hs : (#[Value.int .u8 0, .int .i64 0, .int .i64 0, .slice none 0 0] : Array Value).size = 4 := rfl
  rw [hs, hq]
  match j, hj with
  | 0, _ => rfl
  | 1, _ => rfl
  | 2, _ => rfl
  | 3, _ => rfl
theorem check_nil (w : World) (ht : TabW w) : Calls Tryd.prog 27 #[.agg #[.slice none 0 0, .slice none 0 0]] w fun e w' => e = .returned (.int .i64 60) ∧ Below w.heap.size w w' :=
  ppcheck_is (p := ⟨none, 0, [], none, 0, []⟩) ⟨⟨hdr_none, ⟨CellsAt.empty, fun r hr => by cases hr⟩⟩, ⟨hdr_none, CellsAt.empty, fun r hr => by cases hr⟩⟩ ⟨(fun t ht => by cases ht), (fun f hf => by cases hf), by decide⟩ ht (by decide)
theorem check_17 (w : World) (g : Nat) (hg : w.heap.size = g) (ht : TabW w) : Calls Tryd.prog 27 #[.agg #[.slice (some ⟨g, 0, none⟩) 17 17, .slice none 0 0]] (w.alloc (.cells made17 78)) fun e w' => e = .returned (.int .i64 4) ∧ Below w.heap.size w w' := by
  have hb : Below w.heap.size w (w.alloc (.cells made17 78)) := (Below.refl _ _).alloc (Nat.le_refl _) _
  have hbk : Blk (w.alloc (.cells made17 78)) g 78 made17 := blk_at _ _ _ _ hg
  have hr : ∀ t ∈ List.replicate 17 (⟨0, 0, 0, none, 0, []⟩ : TyR), t = ⟨0, 0, 0, none, 0, []⟩ := fun t h => List.eq_of_mem_replicate h
  have hT : TabIn (w.alloc (.cells made17 78)) (some ⟨g, 0, none⟩) 17 (List.replicate 17 ⟨0, 0, 0, none, 0, []⟩) := by
    refine ⟨hdr_some _ _ (by decide), ⟨fun _ => ⟨g, 0, rfl, Nat.zero_le _, hbk.lt, fun i hi j hj => ?_⟩, fun r h => ?_⟩⟩
    · have hi' : i < 17 := hi
      rw [hbk.cells, made17_at i j hi' hj]
      have : (List.replicate 17 (⟨0, 0, 0, none, 0, []⟩ : TyR)).getD i default = ⟨0, 0, 0, none, 0, []⟩ := hr _ (mem_getD (d := default) (by simpa using hi'))
      dsimp only
      rw [this]
    · rw [hr r h]; exact ⟨by decide, hdr_none, ints_none⟩
  refine (ppcheck_is (p := ⟨some ⟨g, 0, none⟩, 17, List.replicate 17 ⟨0, 0, 0, none, 0, []⟩, none, 0, []⟩) ⟨hT, ⟨hdr_none, CellsAt.empty, fun r hr => by cases hr⟩⟩ ⟨fun t h => (by rw [hr t h]; decide), (fun f hf => by cases hf), by show 0 ≤ 1000; decide⟩ (ht.on hb) (r := 4) (by show checkP ⟨tbl (List.replicate 17 ⟨0, 0, 0, none, 0, []⟩), []⟩ = 4; decide)).mono ?_
  rintro e w' ⟨rfl, hb'⟩
  exact ⟨rfl, hb.trans (hb'.mono hb.size)⟩
set_option maxRecDepth 100000 in
set_option maxHeartbeats 12800000 in
theorem walk_ShapeNames0 {w : World} (ht : TabW w) :
    Calls Tryd.prog 5 #[] w fun e w' => e = .returned (.bool true) ∧ Below w.heap.size w w' := by
  have HT := Lib.hid ht
  have HB0 := Lib.hid (Below.refl w.heap.size w)
  clear ht
  have hm5 := make5
  have hm17 := make17
  go_enter Tryd.func5, Tryd.ntmps5
  go_wp2_with fail
  refine (odd_val ⟨0, 0, 0, 0, 0, none, 0, [], none, 0, []⟩ (plain_ok _ _ _ _ _ _ (by decide)) (by decide) (by decide) (by decide) (HT.out.on HB0.out) (by rfl)).mono ?_
  rintro e v1 ⟨rfl, hb⟩
  have HB1 : Hid (Below w.heap.size w v1) := Lib.hid (HB0.out.trans (hb.mono HB0.out.size))
  clear hb
  go_wp2_with fail
  refine (odd_val ⟨23, 0, 0, 0, 0, none, 0, [], none, 0, []⟩ (plain_ok _ _ _ _ _ _ (by decide)) (by decide) (by decide) (by decide) (HT.out.on HB1.out) (by rfl)).mono ?_
  rintro e v2 ⟨rfl, hb⟩
  have HB2 : Hid (Below w.heap.size w v2) := Lib.hid (HB1.out.trans (hb.mono HB1.out.size))
  clear hb
  go_wp2_with fail
  refine (odd_val ⟨4, 0, 2, 0, 0, none, 0, [], none, 0, []⟩ (plain_ok _ _ _ _ _ _ (by decide)) (by decide) (by decide) (by decide) (HT.out.on HB2.out) (by rfl)).mono ?_
  rintro e v3 ⟨rfl, hb⟩
  have HB3 : Hid (Below w.heap.size w v3) := Lib.hid (HB2.out.trans (hb.mono HB2.out.size))
  clear hb
  go_wp2_with fail
  refine (odd_val ⟨1, 0, 1, 0, 0, none, 0, [], none, 0, []⟩ (plain_ok _ _ _ _ _ _ (by decide)) (by decide) (by decide) (by decide) (HT.out.on HB3.out) (by rfl)).mono ?_
  rintro e v4 ⟨rfl, hb⟩
  have HB4 : Hid (Below w.heap.size w v4) := Lib.hid (HB3.out.trans (hb.mono HB3.out.size))
  clear hb
  go_wp2_with fail
  refine (odd_val ⟨18, 0, 0, 0, 1, none, 0, [], none, 0, []⟩ (plain_ok _ _ _ _ _ _ (by decide)) (by decide) (by decide) (by decide) (HT.out.on HB4.out) (by rfl)).mono ?_
  rintro e v5 ⟨rfl, hb⟩
  have HB5 : Hid (Below w.heap.size w v5) := Lib.hid (HB4.out.trans (hb.mono HB4.out.size))
  clear hb
  go_wp2_with fail
  refine (odd_val ⟨14, 0, 0, 0, 8, none, 0, [], none, 0, []⟩ (plain_ok _ _ _ _ _ _ (by decide)) (by decide) (by decide) (by decide) (HT.out.on HB5.out) (by rfl)).mono ?_
  rintro e v6 ⟨rfl, hb⟩
  have HB6 : Hid (Below w.heap.size w v6) := Lib.hid (HB5.out.trans (hb.mono HB5.out.size))
  clear hb
  go_wp2_with fail
  refine (odd_val ⟨22, 0, 0, 0, 0, none, 0, [], none, 0, []⟩ (plain_ok _ _ _ _ _ _ (by decide)) (by decide) (by decide) (by decide) (HT.out.on HB6.out) (by rfl)).mono ?_
  rintro e v7 ⟨rfl, hb⟩
  have HB7 : Hid (Below w.heap.size w v7) := Lib.hid (HB6.out.trans (hb.mono HB6.out.size))
  clear hb
  go_wp2_with fail
  have HA7 : Hid (Below w.heap.size w (v7.alloc (.cells #[.int .i64 0] 3))) := Lib.hid (HB7.out.alloc HB7.out.size _)
  refine (odd_val ⟨22, 0, 0, 0, 0, some ⟨v7.heap.size, 0, none⟩, 1, [0], none, 0, []⟩ (args_ok (xs := [0]) 22 0 0 0 0 (by decide) (heap_at _ _ _ rfl) (by rfl) (by decide)) (by show 1 ≤ 1000; decide) (by show 0 ≤ 1000; decide) (by show checkP (chapP ⟨22, 0, 0, 0, 0, [0], []⟩ 0 1 true) = 60; decide) (HT.out.on HA7.out) (by rfl)).mono ?_
  rintro e v8 ⟨rfl, hb⟩
  have HB8 : Hid (Below w.heap.size w v8) := Lib.hid (HA7.out.trans (hb.mono HA7.out.size))
  clear hb
  go_wp2_with fail
  refine (odd_val ⟨21, 1, 0, 0, 0, none, 0, [], none, 0, []⟩ (plain_ok _ _ _ _ _ _ (by decide)) (by decide) (by decide) (by decide) (HT.out.on HB8.out) (by rfl)).mono ?_
  rintro e v9 ⟨rfl, hb⟩
  have HB9 : Hid (Below w.heap.size w v9) := Lib.hid (HB8.out.trans (hb.mono HB8.out.size))
  clear hb
  go_wp2_with fail
  refine (odd_val ⟨4, 2, 0, 0, 0, none, 0, [], none, 0, []⟩ (plain_ok _ _ _ _ _ _ (by decide)) (by decide) (by decide) (by decide) (HT.out.on HB9.out) (by rfl)).mono ?_
  rintro e v10 ⟨rfl, hb⟩
  have HB10 : Hid (Below w.heap.size w v10) := Lib.hid (HB9.out.trans (hb.mono HB9.out.size))
  clear hb
  go_wp2_with fail
  have HA10 : Hid (Below w.heap.size w (v10.alloc (.cells #[.int .i64 0, .int .i64 0, .int .i64 0, .int .i64 0, .int .i64 0] 3))) := Lib.hid (HB10.out.alloc HB10.out.size _)
  refine (odd_val ⟨18, 0, 0, 0, 0, some ⟨v10.heap.size, 0, none⟩, 5, [0, 0, 0, 0, 0], none, 0, []⟩ (args_ok (xs := [0, 0, 0, 0, 0]) 18 0 0 0 0 (by decide) (heap_at _ _ _ rfl) (by rfl) (by decide)) (by show 5 ≤ 1000; decide) (by show 0 ≤ 1000; decide) (by show checkP (chapP ⟨18, 0, 0, 0, 0, [0, 0, 0, 0, 0], []⟩ 0 1 true) = 60; decide) (HT.out.on HA10.out) (by rfl)).mono ?_
  rintro e v11 ⟨rfl, hb⟩
  have HB11 : Hid (Below w.heap.size w v11) := Lib.hid (HA10.out.trans (hb.mono HA10.out.size))
  clear hb
  obtain ⟨gp, hgp⟩ : ∃ g, v11.heap.size = g := ⟨_, rfl⟩
  have HGp := Lib.hid hgp
  clear hgp
  go_wp2_with fail
  refine (chapter_at HGp.out).mono ?_
  rintro e v12 ⟨rfl, hc, hb⟩
  unfold chapV
  have HCp0 := Lib.hid hc
  have HB12 : Hid (Below w.heap.size w v12) := Lib.hid (HB11.out.trans (hb.mono HB11.out.size))
  have HSp : Hid (v11.heap.size ≤ v12.heap.size) := Lib.hid hb.size
  clear hb hc
  obtain ⟨gq, hgq⟩ : ∃ g, v12.heap.size = g := ⟨_, rfl⟩
  have HGq := Lib.hid hgq
  clear hgq
  go_wp2_with fail
  refine (chapter_at HGq.out).mono ?_
  rintro e v13 ⟨rfl, hc, hb⟩
  unfold chapV
  have HCq1 := Lib.hid hc
  have HCp1 := Lib.hid (HCp0.out.on hb)
  have HB13 : Hid (Below w.heap.size w v13) := Lib.hid (HB12.out.trans (hb.mono HB12.out.size))
  have HSq : Hid (v12.heap.size ≤ v13.heap.size) := Lib.hid hb.size
  clear hb hc
  obtain ⟨gr, hgr⟩ : ∃ g, v13.heap.size = g := ⟨_, rfl⟩
  have HGr := Lib.hid hgr
  clear hgr
  go_wp2_with fail
  refine (chapter_at HGr.out).mono ?_
  rintro e v14 ⟨rfl, hc, hb⟩
  unfold chapV
  have HCr2 := Lib.hid hc
  have HCp2 := Lib.hid (HCp1.out.on hb)
  have HCq2 := Lib.hid (HCq1.out.on hb)
  have HB14 : Hid (Below w.heap.size w v14) := Lib.hid (HB13.out.trans (hb.mono HB13.out.size))
  have HSr : Hid (v13.heap.size ≤ v14.heap.size) := Lib.hid hb.size
  clear hb hc
  go_upto_region 3 with fail
  obtain ⟨V, hV⟩ : ∃ V, (((v14.alloc (.cells #[.slice (some ⟨gp + 5, 0, none⟩) 2 2, .slice (some ⟨gp + 7, 0, none⟩) 1 1] 35)).alloc (.cells #[.slice (some ⟨gq + 5, 0, none⟩) 2 2, .slice (some ⟨gq + 7, 0, none⟩) 1 1] 35)).alloc (.cells #[.slice (some ⟨gr + 5, 0, none⟩) 2 2, .slice (some ⟨gr + 7, 0, none⟩) 1 1] 35)) = V := ⟨_, rfl⟩
  obtain ⟨G, hG⟩ : ∃ G, v14.heap.size = G := ⟨_, rfl⟩
  rw [hV, hG]
  have HVB : Hid (Below v14.heap.size v14 V) := Lib.hid (hV ▸ (((Below.refl _ _).alloc (Nat.le_refl _) _).alloc (by simp) _).alloc (by simp <;> omega) _)
  have HBP : Hid (Blk V G 35 #[.slice (some ⟨gp + 5, 0, none⟩) 2 2, .slice (some ⟨gp + 7, 0, none⟩) 1 1]) := Lib.hid (hV ▸ ((blk_at _ _ _ _ hG).alloc _).alloc _)
  have HBQ : Hid (Blk V (G + 1) 35 #[.slice (some ⟨gq + 5, 0, none⟩) 2 2, .slice (some ⟨gq + 7, 0, none⟩) 1 1]) := Lib.hid (hV ▸ (blk_at _ _ _ _ (by simp [hG])).alloc _)
  have HBR : Hid (Blk V (G + 1 + 1) 35 #[.slice (some ⟨gr + 5, 0, none⟩) 2 2, .slice (some ⟨gr + 7, 0, none⟩) 1 1]) := Lib.hid (hV ▸ blk_at _ _ _ _ (by simp [hG]))
  have HCp := Lib.hid (HCp2.out.on HVB.out)
  have HCq := Lib.hid (HCq2.out.on HVB.out)
  have HCr := Lib.hid (HCr2.out.on HVB.out)
  have l1 : gp + 7 < gq := by have := HCp0.out.b7.lt; rw [HGq.out] at this; exact this
  have l2 : gq + 7 < gr := by have := HCq1.out.b7.lt; rw [HGr.out] at this; exact this
  have l3 : gr + 7 < G := by have := HCr2.out.b7.lt; rw [hG] at this; exact this
  have l0 : w.heap.size ≤ gp := by have := HB11.out.size; rw [HGp.out] at this; exact this
  have HBV : Hid (Below w.heap.size w V) := Lib.hid (HB14.out.trans (HVB.out.mono HB14.out.size))
  clear hV hG
  have p1 : V.cell? ⟨G, 1, none⟩ = some (.slice (some ⟨gp + 7, 0, none⟩) 1 1) := HBP.out.cells 1
  have p2 : V.cell? ⟨gp + 7, 0, none⟩ = some (.int .i64 1) := HCp.out.b7.cells 0
  have p3 := HCp.out.b7.free 0
  have q1 : V.cell? ⟨G + 1, 1, none⟩ = some (.slice (some ⟨gq + 7, 0, none⟩) 1 1) := HBQ.out.cells 1
  have q2 : V.cell? ⟨gq + 7, 1, none⟩ = some (.slice (some ⟨gq + 6, 0, none⟩) 2 2) := HCq.out.b7.cells 1
  have q3 : V.cell? ⟨gq + 6, 8, none⟩ = some (.int .i64 0) := HCq.out.b6.cells 8
  have q4 := HCq.out.b6.free 8
  have r1 : V.cell? ⟨G + 1 + 1, 1, none⟩ = some (.slice (some ⟨gr + 7, 0, none⟩) 1 1) := HBR.out.cells 1
  have r2 : V.cell? ⟨gr + 7, 1, none⟩ = some (.slice (some ⟨gr + 6, 0, none⟩) 2 2) := HCr.out.b7.cells 1
  have r3 := HCr.out.b7.free 1
  go_wp2_with fail
  obtain ⟨U, hU⟩ : ∃ U, ((V.setCell ⟨gp + 7, 0, none⟩ (.int .i64 0)).setCell ⟨gq + 6, 8, none⟩ (.int .i64 1)).setCell ⟨gr + 7, 1, none⟩ (.slice none 0 0) = U := ⟨_, rfl⟩
  rw [hU]
  have HB20 : Hid (Below w.heap.size w U) := Lib.hid (hU ▸ ((HBV.out.setCell (by show w.heap.size ≤ gp + 7; omega) _).setCell (by show w.heap.size ≤ gq + 6; omega) _).setCell (by show w.heap.size ≤ gr + 7; omega) _)
  have HCp20 : Hid (Chap U gp chJ 0 0 true) := Lib.hid (hU ▸ ((HCp.out.setSig 0).far (by omega) _).far (by omega) _)
  have HCq20 : Hid (Chap U gq chJ 1 1 true) := Lib.hid (hU ▸ ((HCq.out.far (by omega) _).setTo 1).far (by omega) _)
  have HCr20 : Hid (Chap U gr chJ 0 1 false) := Lib.hid (hU ▸ ((HCr.out.far (by omega) _).far (by omega) _).setNil)
  have HBP20 : Hid (Blk U G 35 #[.slice (some ⟨gp + 5, 0, none⟩) 2 2, .slice (some ⟨gp + 7, 0, none⟩) 1 1]) := Lib.hid (hU ▸ ((HBP.out.far (by show G ≠ gp + 7; omega) _).far (by show G ≠ gq + 6; omega) _).far (by show G ≠ gr + 7; omega) _)
  have HBQ20 : Hid (Blk U (G + 1) 35 #[.slice (some ⟨gq + 5, 0, none⟩) 2 2, .slice (some ⟨gq + 7, 0, none⟩) 1 1]) := Lib.hid (hU ▸ ((HBQ.out.far (by show G + 1 ≠ gp + 7; omega) _).far (by show G + 1 ≠ gq + 6; omega) _).far (by show G + 1 ≠ gr + 7; omega) _)
  have HBR20 : Hid (Blk U (G + 1 + 1) 35 #[.slice (some ⟨gr + 5, 0, none⟩) 2 2, .slice (some ⟨gr + 7, 0, none⟩) 1 1]) := Lib.hid (hU ▸ ((HBR.out.far (by show G + 1 + 1 ≠ gp + 7; omega) _).far (by show G + 1 + 1 ≠ gq + 6; omega) _).far (by show G + 1 + 1 ≠ gr + 7; omega) _)
  clear hU p1 p2 p3 q1 q2 q3 q4 r1 r2 r3 l0 l1 l2 l3
  have HU0 := Lib.hid (Below.refl U.heap.size U)
  obtain ⟨h0, hh⟩ : ∃ g, U.heap.size = g := ⟨_, rfl⟩
  have HH0 := Lib.hid hh
  clear hh
  refine (chapter_at HH0.out).mono ?_
  rintro e u1 ⟨rfl, hc, hb⟩
  have HCC0 := Lib.hid hc
  have HU1 : Hid (Below U.heap.size U u1) := Lib.hid (HU0.out.trans (hb.mono HU0.out.size))
  clear hb hc
  unfold chapV
  go_wp2_with fail
  refine (chap_regs HCC0.out (chJ_ok _) (HT.out.on (HB20.out.trans (HU1.out.mono HB20.out.size))) (by decide) (by decide) (f := 1) (a := 0) (b := 2) (by decide)).mono ?_
  rintro e u2 ⟨rfl, hb⟩
  have HU2 : Hid (Below U.heap.size U u2) := Lib.hid (HU1.out.trans (hb.mono HU1.out.size))
  clear hb
  go_wp2_with fail
  obtain ⟨h1, hh⟩ : ∃ g, u2.heap.size = g := ⟨_, rfl⟩
  have HH1 := Lib.hid hh
  clear hh
  refine (chapter_at HH1.out).mono ?_
  rintro e u3 ⟨rfl, hc, hb⟩
  have HCC1 := Lib.hid hc
  have HU3 : Hid (Below U.heap.size U u3) := Lib.hid (HU2.out.trans (hb.mono HU2.out.size))
  clear hb hc
  unfold chapV
  go_wp2_with fail
  refine (chap_place HCC1.out (chJ_ok _) (HT.out.on (HB20.out.trans (HU3.out.mono HB20.out.size))) (by decide) (by decide) (f := 0) (r := 2) (a := 0) (b := 0) (c := 2) (by decide)).mono ?_
  rintro e u4 ⟨rfl, hb⟩
  have HU4 : Hid (Below U.heap.size U u4) := Lib.hid (HU3.out.trans (hb.mono HU3.out.size))
  clear hb
  go_wp2_with fail
  obtain ⟨h2, hh⟩ : ∃ g, u4.heap.size = g := ⟨_, rfl⟩
  have HH2 := Lib.hid hh
  clear hh
  refine (chapter_at HH2.out).mono ?_
  rintro e u5 ⟨rfl, hc, hb⟩
  have HCC2 := Lib.hid hc
  have HU5 : Hid (Below U.heap.size U u5) := Lib.hid (HU4.out.trans (hb.mono HU4.out.size))
  clear hb hc
  unfold chapV
  go_wp2_with fail
  refine (chap_reg HCC2.out (chJ_ok _) (HT.out.on (HB20.out.trans (HU5.out.mono HB20.out.size))) (by decide) (by decide) (f := 0) (b := 1) (i := 1) (a := 0) (c := 2) (by decide)).mono ?_
  rintro e u6 ⟨rfl, hb⟩
  have HU6 : Hid (Below U.heap.size U u6) := Lib.hid (HU5.out.trans (hb.mono HU5.out.size))
  clear hb
  go_wp2_with fail
  refine (alive_any _ (HT.out.on (HB20.out.trans (HU6.out.mono HB20.out.size)))).mono ?_
  rintro e u7 ⟨rfl, hb⟩
  have HU7 : Hid (Below U.heap.size U u7) := Lib.hid (HU6.out.trans (hb.mono HU6.out.size))
  clear hb
  have x0 := (HBP20.out.beneath HU7.out).cells 0
  have x1 := (HBP20.out.beneath HU7.out).cells 1
  go_wp2_with fail
  refine (chap_check (HCp20.out.on HU7.out) (chJ_ok _) (HT.out.on (HB20.out.trans (HU7.out.mono HB20.out.size))) (by decide) (by decide) (r := 60) (by decide)).mono ?_
  rintro e u8 ⟨rfl, hb⟩
  have HU8 : Hid (Below U.heap.size U u8) := Lib.hid (HU7.out.trans (hb.mono HU7.out.size))
  clear hb x0 x1
  have x0 := (HBQ20.out.beneath HU8.out).cells 0
  have x1 := (HBQ20.out.beneath HU8.out).cells 1
  go_wp2_with fail
  refine (chap_check (HCq20.out.on HU8.out) (chJ_ok _) (HT.out.on (HB20.out.trans (HU8.out.mono HB20.out.size))) (by decide) (by decide) (r := 60) (by decide)).mono ?_
  rintro e u9 ⟨rfl, hb⟩
  have HU9 : Hid (Below U.heap.size U u9) := Lib.hid (HU8.out.trans (hb.mono HU8.out.size))
  clear hb x0 x1
  have x0 := (HBR20.out.beneath HU9.out).cells 0
  have x1 := (HBR20.out.beneath HU9.out).cells 1
  go_wp2_with fail
  refine (chap_check (HCr20.out.on HU9.out) (chJ_ok _) (HT.out.on (HB20.out.trans (HU9.out.mono HB20.out.size))) (by decide) (by decide) (r := 60) (by decide)).mono ?_
  rintro e u10 ⟨rfl, hb⟩
  have HU10 : Hid (Below U.heap.size U u10) := Lib.hid (HU9.out.trans (hb.mono HU9.out.size))
  clear hb x0 x1
  go_wp2_with fail
  refine (check_nil _ (HT.out.on (HB20.out.trans (HU10.out.mono HB20.out.size)))).mono ?_
  rintro e u11 ⟨rfl, hb⟩
  have HU11 : Hid (Below U.heap.size U u11) := Lib.hid (HU10.out.trans (hb.mono HU10.out.size))
  clear hb
  go_wp2_with fail
  refine (check_17 _ _ rfl (HT.out.on (HB20.out.trans (HU11.out.mono HB20.out.size)))).mono ?_
  rintro e u12 ⟨rfl, hb⟩
  have HU12 : Hid (Below U.heap.size U u12) := Lib.hid (HU11.out.trans (hb.mono HU11.out.size))
  clear hb
  go_wp2_with fail
  go_ret
  exact ⟨rfl, HB20.out.trans (HU12.out.mono HB20.out.size)⟩
end Go.Proofs.YtcbhmpkginebaaaDoor
