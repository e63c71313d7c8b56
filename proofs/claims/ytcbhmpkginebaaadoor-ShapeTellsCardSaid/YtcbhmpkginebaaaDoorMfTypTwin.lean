/-
  The reference's Twin of types: a table of the call's own that tells the same.
-/
import Derived.Test.YtcbhmpkginebaaaDoorMg14
import Derived.Outline
namespace Go.Proofs.YtcbhmpkginebaaaDoor
set_option linter.unusedVariables false
set_option linter.unusedSimpArgs false
open Go.ChangeShapes Go.WideShapes Go.ChangeAt Go.RowKit

theorem typeInfo : (Tryd.prog.info? 78).map (fun i => (i.zero, i.size, i.bytes)) = some (some (.agg #[.int .u8 0, .int .i64 0, .int .i64 0, .slice none 0 0]), 4, 48) := by kernel_rfl
/-- append of a type that has just been laid in a block of its own. -/
theorem wpList_appT {w : World} {ops : Array Oper} {rest : List Oper} {o : Oper} {a : Act} {Q : Exit → Act → World → Prop} (hgd : o.guard = none) (s x : Operand)
    (ho : o.op = .call { callee := .builtin .append, args := #[s, x], argTypes := #[32, 32] })
    (lo : Nat) (v : Value) (rows : List TyR) (r : TyR) (hs : a.eval s = v) (hown : OwnTys w lo v rows) (hx : a.eval x = .slice (some ⟨w.heap.size, 0, none⟩) 1 1) (hr : OwnInts w lo (.slice r.pa r.parts.length r.pc) r.parts) (hk : r.kind ≤ 255)
    (hlen : rows.length ≤ 1000000) (hbase : lo ≤ w.heap.size)
    (h : ∀ v' w', OwnTys w' lo v' (rows ++ [r]) → (w.alloc (.cells #[.int .u8 r.kind, .int .i64 r.elem, .int .i64 r.many, .slice r.pa r.parts.length r.pc] 78)).grownBy w' v.ownBlock → wpList Tryd.prog ops Q rest (a.put o.dst v') w') : wpList Tryd.prog ops Q (o :: rest) a (w.alloc (.cells #[.int .u8 r.kind, .int .i64 r.elem, .int .i64 r.many, .slice r.pa r.parts.length r.pc] 78)) := by
  obtain ⟨i0, hi, hz0, hz1, hz2⟩ := info_parts typeInfo
  refine wpList_appS hgd s x 32 78 ho i0 _ 4 48 Tryd.underlying32 hi hz0 hz1 hz2 rfl (by decide) lo v rows.length _ hs hown.row _ hx rfl ?_ hlen (by decide) hbase ?_
  · intro u hu
    simp at hu
    rcases hu with rfl | rfl | rfl | rfl <;> rfl
  · intro v' w' h1 h2
    have hb0 : Below w.heap.size w (w.alloc (.cells #[.int .u8 r.kind, .int .i64 r.elem, .int .i64 r.many, .slice r.pa r.parts.length r.pc] 78)) := (Below.refl _ _).alloc (Nat.le_refl _) _
    refine h v' w' (OwnTys.push (hown.keep hb0) h1 h2 (fun q hq => ?_) (hr.keep hb0) ?_ hk) h2
    · exact rows_ne ((hown.keep hb0).inner q hq).1 (hown.keep hb0).row (by decide)
    · exact rows_ne (hr.keep hb0) (hown.keep hb0).row (by decide)

theorem OwnInts.zero (w : World) (lo g : Nat) (h : lo ≤ w.heap.size) (hg : g = w.heap.size) : OwnInts (w.alloc (.cells #[] 3)) lo (.slice (some ⟨g, 0, none⟩) 0 0) [] := by
  subst hg
  refine ⟨rfl, .inr ⟨w.heap.size, 0, #[], rfl, h, ?_, Nat.le_refl 0, by unfold maxLen; omega, rfl, rfl⟩⟩
  show (w.heap.push _)[w.heap.size]? = _
  simp

theorem size_set (w : World) (a : Addr) (v : Value) : (w.setCell a v).heap.size = w.heap.size := by simp [World.setCell]
theorem OwnInts.far {w : World} {lo g j : Nat} {t : TypeId} {cs : Array Value} {v u : Value} {xs : List Int} (h : OwnInts w lo v xs) (hg : Blk w g t cs) (hne : 3 ≠ t) : OwnInts (w.setCell ⟨g, j, none⟩ u) lo v xs := by
  have hn := h.ne hg hne
  unfold OwnInts at h ⊢
  refine ⟨h.1, ?_⟩
  rcases h.2 with h1 | ⟨g', cap, cur, rfl, h2, h3, h4⟩
  · exact .inl h1
  · refine .inr ⟨g', cap, cur, rfl, h2, (Below.heap_setCell w _ u g' ?_).trans h3, h4⟩
    intro e
    apply hn
    show some g' = some g
    rw [e]
/-- A table of its own that tells the same. -/
def SomeTwin (t : List Ty) (w : World) (e : Ending) (w' : World) : Prop := ∃ v rows, e = .returned v ∧ OwnTys w' w.heap.size v rows ∧ tbl rows = t ∧ Below w.heap.size w w'
set_option maxHeartbeats 800000 in
theorem rtwin_any {w : World} {A : Option Addr} {c : Nat} {rows : List TyR} (h : TabIn w A c rows) (hlen : rows.length ≤ 1000) (hps : ∀ r ∈ rows, r.parts.length ≤ 1000) :
    Calls Tryd.prog 37 #[.slice A rows.length c] w (SomeTwin (tbl rows) w) := by
  have HX := Lib.hid h
  have HP := Lib.hid hps
  clear h hps
  go_enter Tryd.func37, Tryd.ntmps37
  go_wp2_with fail
  go_loopw [3, 4] (fun v i wr => ∃ (k : Nat) (new : List TyR), k ≤ rows.length ∧ i = .int .i64 k ∧ new.length = k ∧ OwnTys wr w.heap.size v new ∧ Hid (tbl new = (tbl rows).take k) ∧ Below w.heap.size w wr) (fun _ i _ => rows.length - (intOf i).toNat)
  case atStart => exact ⟨0, [], Nat.zero_le _, rfl, rfl, OwnTys.nil _ _, Lib.hid rfl, Below.refl _ _⟩
  case round =>
    obtain ⟨k, new, hk, rfl, hnl, hown, HT, hbel⟩ := hrel
    have HO := Lib.hid hown
    have HNL := Lib.hid hnl
    clear hown hnl
    by_cases hlt : k < rows.length
    · obtain ⟨b, off, hA, hbl, c0, c1, c2, c3⟩ := (HX.out.rows.elem hlt).at_
      subst hA
      have d0 := (hbel.cell (p := ⟨b, off + k * 4, none⟩) hbl).trans c0
      have d1 := (hbel.cell (p := ⟨b, off + k * 4 + 1, none⟩) hbl).trans c1
      have d2 := (hbel.cell (p := ⟨b, off + k * 4 + 2, none⟩) hbl).trans c2
      have d3 := (hbel.cell (p := ⟨b, off + k * 4 + 3, none⟩) hbl).trans c3
      have hr := ((HX.out.row hlt).keep hbel).more (Nat.le_refl _) hbel.size
      have hpl := HP.out _ (mem_getD (d := default) hlt)
      have HD : Hid ((tbl rows).getD k default = (rows.getD k default).data) := Lib.hid (tbl_at hlt)
      have HB := Lib.hid hbel
      have hz : b < wr.heap.size := World.block_lt_of_cell? _ _ d0
      have hsz := hbel.size
      clear hbel c0 c1 c2 c3
      generalize rows.getD k default = r at d0 d1 d2 d3 hr hpl HD
      obtain ⟨κ, el, ma, pa, pc, ps⟩ := r
      simp only at d0 d1 d2 d3 hpl
      have HR := Lib.hid hr
      clear hr
      -- the round's own variable, and the empty list
      have HB1 : Hid (Below wr.heap.size wr ((wr.alloc (.cells #[.int .u8 κ, .int .i64 el, .int .i64 ma, .slice pa ps.length pc] 78)).alloc (.cells #[] 3))) := Lib.hid (((Below.refl _ _).alloc (Nat.le_refl _) _).alloc (by simp) _)
      have HZ : Hid (∀ x, OwnInts ((wr.alloc x).alloc (.cells #[] 3)) w.heap.size (.slice (some ⟨wr.heap.size + 1, 0, none⟩) 0 0) []) := Lib.hid fun x => OwnInts.zero _ _ _ (by rw [World.size_alloc]; omega) (by rw [World.size_alloc])
      have HK0 : Hid (Blk ((wr.alloc (.cells #[.int .u8 κ, .int .i64 el, .int .i64 ma, .slice pa ps.length pc] 78)).alloc (.cells #[] 3)) wr.heap.size 78 #[.int .u8 κ, .int .i64 el, .int .i64 ma, .slice pa ps.length pc]) := Lib.hid ((Blk.new _ _ _).alloc _)
      go_wp2_with (at_builtin; refine wpList_appN rfl (.tmp 16) (.tmp 18) rfl w.heap.size 0 wr.heap.size _ [] rfl (HZ.out _) pa ps.length pc ps rfl rfl HR.out.hdr.nil (HR.out.ints.keep HB1.out) (by simp; omega) (by simp; omega) ?_; intro v1 w1 hown1 hg1; refine pause ?_)
      have hB1 := HB1.out.grown hg1 HB1.out.size (fun k hk => by have : wr.heap.size + 1 = k := Option.some.inj hk; omega)
      have hK1 := HK0.out.grown hg1 (fun h => by have : wr.heap.size + 1 = wr.heap.size := Option.some.inj h; omega)
      rw [List.nil_append] at hown1
      obtain ⟨A1, c1, rfl, hnil1, hints1, hle1, hcap1⟩ := hown1.form
      have k0 := hK1.cells 0
      have k1 := hK1.cells 1
      have k2 := hK1.cells 2
      have k3 := hK1.cells 3
      have f3 := hK1.free 3
      have HB2 : Hid (Below wr.heap.size wr (w1.setCell ⟨wr.heap.size, 3, none⟩ (.slice A1 ps.length c1))) := Lib.hid (hB1.setCell (Nat.le_refl _) _)
      have HO2 : Hid (OwnInts (w1.setCell ⟨wr.heap.size, 3, none⟩ (.slice A1 ps.length c1)) w.heap.size (.slice A1 ps.length c1) ps) := Lib.hid (hown1.far hK1 (by decide))
      clear hB1 hK1 hown1 hg1 hnil1 hints1
      have hκ : κ ≤ 255 := HR.out.kind
      refine resume ?_
      go_wp2_with (at_builtin; refine wpList_appT rfl (.tmp 21) (.tmp 23) rfl w.heap.size _ new ⟨κ, el, ma, A1, c1, ps⟩ rfl (HO.out.keep HB2.out) (by rw [size_set]; rfl) HO2.out hκ (by have := HNL.out; omega) (Nat.le_trans hsz HB2.out.size) ?_; intro v2 w2 hown2 hg2; refine pause ?_)
      have hB3 := fun o => HB2.out.trans (((Below.refl _ _).alloc (Nat.le_refl _) o).mono HB2.out.size)
      have HB4 := Lib.hid (Below.grown (HB.out.trans ((hB3 _).mono HB.out.size)) hg2 (by rw [World.size_alloc]; have := HB2.out.size; omega) (fun k hk => (HO.out.row.lt k hk).1))
      have HO4 := Lib.hid hown2
      clear hown2 hg2 hB3 k0 k1 k2 k3 f3
      refine resume ?_
      go_wp2_with fail
      go_roundw
      case rel => exact ⟨k + 1, _, by omega, by go_num, by rw [List.length_append, HNL.out]; rfl, HO4.out, Lib.hid (by unfold tbl; rw [List.map_append]; have := HT.out; unfold tbl at this; rw [this, ← tbl, take_succ_getD (d := default) (by rw [tbl_len]; exact hlt), HD.out]; rfl), HB4.out⟩
      case measure => simp [intOf]; omega
    · have HB := Lib.hid hbel
      clear hbel
      go_wp2_with fail
      go_ret
      exact ⟨_, new, rfl, HO.out, by have := HT.out; rwa [List.take_of_length_le (by rw [tbl_len]; omega)] at this, HB.out⟩
end Go.Proofs.YtcbhmpkginebaaaDoor
