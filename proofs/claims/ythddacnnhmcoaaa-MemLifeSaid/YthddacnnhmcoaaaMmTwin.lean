/-
  The reference's Twin of memories: a memory of the call's own that tells the same.
-/
import Derived.Test.YthddacnnhmcoaaaMmOwn
import Derived.Outline
namespace Go.Proofs.Ythddacnnhmcoaaa
set_option linter.unusedVariables false
set_option linter.unusedSimpArgs false
open Go.ChangeShapes Go.WideShapes Go.ChangeAt Go.RowKit

theorem valInfo : (Try.prog.info? 29).map (fun i => (i.zero, i.size, i.bytes)) = some (some (.agg #[.int .u8 0, .int .i64 0, .int .i64 0, .int .i64 0]), 4, 32) := by kernel_rfl
theorem blkInfo : (Try.prog.info? 70).map (fun i => (i.zero, i.size, i.bytes)) = some (some (.agg #[.int .i64 0, .int .i64 0, .int .i64 0, .bool false, .slice none 0 0]), 5, 56) := by kernel_rfl
def OwnVals (w : World) (lo : Nat) (v : Value) (vs : List Vl) : Prop := w.ownsRow lo 29 4 v vs.length (vs.flatMap Vl.cells4)
theorem OwnVals.nil (w : World) (lo : Nat) : OwnVals w lo (.slice none 0 0) [] := World.ownsRow_nil _ _ _ _
theorem OwnVals.keep {w w' : World} {lo : Nat} {v : Value} {vs : List Vl} (h : OwnVals w lo v vs) (hb : Below w.heap.size w w') : OwnVals w' lo v vs := ownsRow_keep h hb
theorem OwnVals.more {w : World} {lo lo' : Nat} {v : Value} {vs : List Vl} (h : OwnVals w lo v vs) (hl : lo' ≤ lo) : OwnVals w lo' v vs := ownsRow_more h hl
theorem OwnVals.base {w : World} {lo : Nat} {v : Value} {vs : List Vl} (h : OwnVals w lo v vs) : ∀ k, v.ownBlock = some k → lo ≤ k := own_base h
theorem OwnVals.form {w : World} {lo : Nat} {v : Value} {vs : List Vl} (h : OwnVals w lo v vs) :
    ∃ A c, v = .slice A vs.length c ∧ Hdr A vs.length c ∧ ValsAt w lo w.heap.size A vs ∧ (0 < vs.length → ∃ b o, A = some ⟨b, o, none⟩ ∧ lo ≤ b ∧ TBlk w b 29) := by
  obtain ⟨A, c, hv, hle, hcap, hnil, hc⟩ := ownsRow_form h (by omega)
  refine ⟨A, c, hv, ⟨hle, hcap, hnil⟩, hc.congr fun i hi j hj => ?_, fun hn => ?_⟩
  · rw [flat_getD Vl.cells4 4 (fun _ => rfl) default vs i j hi hj]
    match j, hj with
    | 0, _ => rfl
    | 1, _ => rfl
    | 2, _ => rfl
    | 3, _ => rfl
  · rcases h.2 with ⟨_, h0⟩ | ⟨g, cap, cur, hv2, hb, hh, _⟩
    · omega
    · rw [hv] at hv2
      injection hv2 with hv2 _ _
      exact ⟨g, 0, hv2, hb, cur, hh⟩
theorem vals_news {w : World} {lo B : Nat} {A : Option Addr} {vs : List Vl} (h : ValsAt w lo B A vs) : ∀ ad, A = some ad → ∀ j u, (vs.flatMap Vl.cells4)[j]? = some u → w.cell? (ad.add j) = some u := by
  intro ad hA q u hq
  obtain ⟨hlt, hu⟩ := List.getElem?_eq_some_iff.1 hq
  rw [flat_len5 Vl.cells4 4 (fun _ => rfl)] at hlt
  obtain ⟨b, off, e, h1, h2, hc⟩ := h (by omega)
  rw [hA] at e
  injection e with e
  subst e
  rw [add_lit]
  have hi : q / 4 < vs.length := by omega
  have hj : q % 4 < 4 := by omega
  have hcc := hc (q / 4) hi (q % 4) hj
  rw [show off + q / 4 * 4 + q % 4 = off + q by omega] at hcc
  rw [hcc, ← hu]
  have hf := flat_getD Vl.cells4 4 (fun _ => rfl) default vs (q / 4) (q % 4) hi hj
  rw [show q / 4 * 4 + q % 4 = q by omega, List.getD_eq_getElem?_getD, hq] at hf
  rw [show (vs.flatMap Vl.cells4)[q] = u from hu]
  have hf2 : u = ((vs.getD (q / 4) default).cells4).getD (q % 4) undef := hf
  rw [hf2]
  generalize q % 4 = j at hj
  match j, hj with
  | 0, _ => rfl
  | 1, _ => rfl
  | 2, _ => rfl
  | 3, _ => rfl
theorem vals_one (vs : List Vl) : ∀ u ∈ vs.flatMap Vl.cells4, u.oneCell' = true := by
  intro u hu
  obtain ⟨r, _, hr⟩ := List.mem_flatMap.1 hu
  simp only [Vl.cells4, List.mem_cons, List.not_mem_nil, or_false] at hr
  rcases hr with rfl | rfl | rfl | rfl <;> rfl
/-- append of a list of values that lies somewhere. -/
theorem wpList_appVs {w : World} {ops : Array Oper} {rest : List Oper} {o : Oper} {a : Act} {Q : Exit → Act → World → Prop} (hgd : o.guard = none) (s x : Operand)
    (ho : o.op = .call { callee := .builtin .append, args := #[s, x], argTypes := #[68, 68] })
    (base lo B : Nat) (v : Value) (xs : List Vl) (hs : a.eval s = v) (hown : OwnVals w base v xs) (A : Option Addr) (m c : Nat) (ys : List Vl) (hx : a.eval x = .slice A m c) (hm : ys.length = m) (hA : A = none → m = 0 ∧ c = 0) (hys : ValsAt w lo B A ys)
    (hlen : xs.length + ys.length ≤ 1000000) (hbase : base ≤ w.heap.size)
    (h : ∀ v' w', OwnVals w' base v' (xs ++ ys) → w.grownBy w' v.ownBlock → wpList Try.prog ops Q rest (a.put o.dst v') w') : wpList Try.prog ops Q (o :: rest) a w := by
  obtain ⟨i0, hi, hz0, hz1, hz2⟩ := info_parts valInfo
  subst hm
  refine wpList_app hgd s x 68 ho base 29 i0 _ 4 32 Try.underlying68 hi hz0 hz1 hz2 rfl (by decide) v xs.length (xs.flatMap Vl.cells4) hs hown A ys.length c (ys.flatMap Vl.cells4) hx hA (flat_len5 Vl.cells4 4 (fun _ => rfl) ys) (vals_news hys) (vals_one ys) ?_ ?_ hbase ?_
  · unfold maxLen; omega
  · omega
  · intro v' w' h1 h2
    exact h v' w' (by unfold OwnVals; rw [List.length_append, List.flatMap_append]; exact h1) h2
theorem ownVals_zero (w : World) (lo g : Nat) (h : lo ≤ w.heap.size) (hg : g = w.heap.size) : OwnVals (w.alloc (.cells #[] 29)) lo (.slice (some ⟨g, 0, none⟩) 0 0) [] := by
  subst hg
  exact World.ownsRow_lit w #[] 0 h (by unfold maxLen; omega) rfl
/-- append of a block that has just been laid in a block of memory of its own. -/
theorem wpList_appBlk {w : World} {ops : Array Oper} {rest : List Oper} {o : Oper} {a : Act} {Q : Exit → Act → World → Prop} (hgd : o.guard = none) (s x : Operand)
    (ho : o.op = .call { callee := .builtin .append, args := #[s, x], argTypes := #[22, 22] })
    (lo : Nat) (W : World) (v : Value) (rows : List BkR) (r : BkR) (hs : a.eval s = v) (hown : OwnBl W lo v rows) (hW : Below W.heap.size W w) (hx : a.eval x = .slice (some ⟨w.heap.size, 0, none⟩) 1 1) (hr : r.Ok w 0 w.heap.size)
    (hfresh : 0 < r.cells.length → ∃ b o, r.ca = some ⟨b, o, none⟩ ∧ W.heap.size ≤ b ∧ TBlk w b 29) (hlen : rows.length ≤ 1000000) (hlo : lo ≤ W.heap.size)
    (h : ∀ v' w', OwnBl w' lo v' (rows ++ [r]) → (w.alloc (.cells #[.int .i64 r.site, .int .i64 r.type, .int .i64 r.depth, .bool r.alive, .slice r.ca r.cells.length r.cc] 70)).grownBy w' v.ownBlock → wpList Try.prog ops Q rest (a.put o.dst v') w') : wpList Try.prog ops Q (o :: rest) a (w.alloc (.cells #[.int .i64 r.site, .int .i64 r.type, .int .i64 r.depth, .bool r.alive, .slice r.ca r.cells.length r.cc] 70)) := by
  obtain ⟨i0, hi, hz0, hz1, hz2⟩ := info_parts blkInfo
  refine wpList_appS hgd s x 22 70 ho i0 _ 5 56 Try.underlying22 hi hz0 hz1 hz2 rfl (by decide) lo v rows.length _ hs (ownsRow_keep hown.row hW) _ hx rfl ?_ hlen (by decide) (Nat.le_trans hlo hW.size) ?_
  · intro u hu
    simp at hu
    rcases hu with rfl | rfl | rfl | rfl | rfl <;> rfl
  · intro v' w' h1 h2
    have hb0 : Below w.heap.size w (w.alloc (.cells #[.int .i64 r.site, .int .i64 r.type, .int .i64 r.depth, .bool r.alive, .slice r.ca r.cells.length r.cc] 70)) := (Below.refl _ _).alloc (Nat.le_refl _) _
    refine h v' w' (OwnBl.push hown (hW.trans (hb0.mono hW.size)) h1 h2 ((hr.keep hb0).more (Nat.le_refl _) hb0.size) (fun hn => ?_) hlo) h2
    obtain ⟨b, o, g1, g2, g3⟩ := hfresh hn
    exact ⟨b, o, g1, g2, g3.beneath hb0⟩

/-- A memory of its own that tells so much. -/
def SomeMem (m : List Bk) (w : World) (e : Ending) (w' : World) : Prop := ∃ v rows, e = .returned v ∧ OwnBl w' w.heap.size v rows ∧ mmb rows = m ∧ Below w.heap.size w w'
/-- No memory is too great to be gone through. -/
structure MemFew (w : World) (A : Option Addr) (c : Nat) (rows : List BkR) : Prop where
  mem : MemIn w A c rows
  few : rows.length ≤ 1000
  each : ∀ r ∈ rows, r.cells.length ≤ 1000
theorem MemFew.on {w w' : World} {A : Option Addr} {c : Nat} {rows : List BkR} (h : MemFew w A c rows) (hb : Below w.heap.size w w') : MemFew w' A c rows := ⟨h.mem.on hb, h.few, h.each⟩
set_option maxHeartbeats 800000 in
theorem rtwinm_any {w : World} {A : Option Addr} {c : Nat} {rows : List BkR} (h : MemFew w A c rows) :
    Calls Try.prog 12 #[.slice A rows.length c] w (SomeMem (mmb rows) w) := by
  have HX := Lib.hid h.mem
  have HP := Lib.hid h.each
  have hlen := h.few
  clear h
  go_enter Try.func12, Try.ntmps12
  go_wp2_with fail
  go_loopw [3, 4] (fun v i wr => ∃ (k : Nat) (new : List BkR), k ≤ rows.length ∧ i = .int .i64 k ∧ new.length = k ∧ OwnBl wr w.heap.size v new ∧ Hid (mmb new = (mmb rows).take k) ∧ Below w.heap.size w wr) (fun _ i _ => rows.length - (intOf i).toNat)
  case atStart => exact ⟨0, [], Nat.zero_le _, rfl, rfl, OwnBl.nil _ _, Lib.hid rfl, Below.refl _ _⟩
  case round =>
    obtain ⟨k, new, hk, rfl, hnl, hown, HT, hbel⟩ := hrel
    have HO := Lib.hid hown
    have HNL := Lib.hid hnl
    clear hown hnl
    by_cases hlt : k < rows.length
    · obtain ⟨b, off, hA, hbl, d0, d1, d2, d3, d4⟩ := ((HX.out.on hbel).rows.elem hlt).at_
      subst hA
      have hr := (HX.out.on hbel).row hlt
      have hpl := HP.out _ (mem_getD (d := default) hlt)
      have HD : Hid ((mmb rows).getD k default = (rows.getD k default).data) := Lib.hid (mmb_at hlt)
      have HB := Lib.hid hbel
      have hsz := hbel.size
      clear hbel
      generalize rows.getD k default = r at d0 d1 d2 d3 d4 hr hpl HD
      obtain ⟨s, ty, de, al, ca, cc, vs⟩ := r
      simp only at d0 d1 d2 d3 d4 hpl
      have HR := Lib.hid hr
      clear hr
      have HB1 : Hid (Below wr.heap.size wr ((wr.alloc (.cells #[.int .i64 s, .int .i64 ty, .int .i64 de, .bool al, .slice ca vs.length cc] 70)).alloc (.cells #[] 29))) := Lib.hid (((Below.refl _ _).alloc (Nat.le_refl _) _).alloc (by simp) _)
      have HZ : Hid (∀ x, OwnVals ((wr.alloc x).alloc (.cells #[] 29)) wr.heap.size (.slice (some ⟨wr.heap.size + 1, 0, none⟩) 0 0) []) := Lib.hid fun x => ownVals_zero _ _ _ (by rw [World.size_alloc]; omega) (by rw [World.size_alloc])
      have HK0 : Hid (Blk ((wr.alloc (.cells #[.int .i64 s, .int .i64 ty, .int .i64 de, .bool al, .slice ca vs.length cc] 70)).alloc (.cells #[] 29)) wr.heap.size 70 #[.int .i64 s, .int .i64 ty, .int .i64 de, .bool al, .slice ca vs.length cc]) := Lib.hid ((Blk.new _ _ _).alloc _)
      go_wp2_with (at_builtin; refine wpList_appVs rfl (.tmp 16) (.tmp 18) rfl wr.heap.size 0 wr.heap.size _ [] rfl (HZ.out _) ca vs.length cc vs rfl rfl HR.out.hdr.nil (HR.out.vals.keep HB1.out) (by simp; omega) (by simp; omega) ?_; intro v1 w1 hown1 hg1; refine pause ?_)
      have hB1 := HB1.out.grown hg1 HB1.out.size (fun k hk => by have : wr.heap.size + 1 = k := Option.some.inj hk; omega)
      have hK1 := HK0.out.grown hg1 (fun h => by have : wr.heap.size + 1 = wr.heap.size := Option.some.inj h; omega)
      rw [List.nil_append] at hown1
      obtain ⟨A1, c1, rfl, hh1, hvals1, hfr1⟩ := hown1.form
      have k0 := hK1.cells 0
      have k1 := hK1.cells 1
      have k2 := hK1.cells 2
      have k3 := hK1.cells 3
      have k4 := hK1.cells 4
      have f4 := hK1.free 4
      have HB2 : Hid (Below wr.heap.size wr (w1.setCell ⟨wr.heap.size, 4, none⟩ (.slice A1 vs.length c1))) := Lib.hid (hB1.setCell (Nat.le_refl _) _)
      have HR2 : Hid (BkR.Ok (w1.setCell ⟨wr.heap.size, 4, none⟩ (.slice A1 vs.length c1)) 0 (w1.setCell ⟨wr.heap.size, 4, none⟩ (.slice A1 vs.length c1)).heap.size ⟨s, ty, de, al, A1, c1, vs⟩) := Lib.hid ⟨hh1, by
        rw [size_set]
        refine (hvals1.more (Nat.zero_le _) (Nat.le_refl _)).apart fun b o e hn => .inl ?_
        obtain ⟨b2, o2, e2, _, ht⟩ := hfr1 hn
        have e3 : A1 = some ⟨b, o, none⟩ := e
        rw [e3] at e2
        injection e2 with e2
        injection e2 with e2 _ _
        subst e2
        exact ht.ne (t' := 70) ⟨_, hK1⟩ (by decide)⟩
      have HF2 : Hid (0 < vs.length → ∃ b o, A1 = some ⟨b, o, none⟩ ∧ wr.heap.size ≤ b ∧ TBlk (w1.setCell ⟨wr.heap.size, 4, none⟩ (.slice A1 vs.length c1)) b 29) := Lib.hid fun hn => by
        obtain ⟨b2, o2, e2, h2, ht⟩ := hfr1 hn
        exact ⟨b2, o2, e2, h2, ht.put _ _⟩
      clear hB1 hK1 hown1 hg1 hh1 hvals1 hfr1
      refine resume ?_
      go_wp2_with (at_builtin; refine wpList_appBlk rfl (.tmp 21) (.tmp 23) rfl w.heap.size wr _ new ⟨s, ty, de, al, A1, c1, vs⟩ rfl HO.out HB2.out (by rw [size_set]; rfl) HR2.out HF2.out (by have := HNL.out; omega) hsz ?_; intro v2 w2 hown2 hg2; refine pause ?_)
      have hB3 := fun o => HB2.out.trans (((Below.refl _ _).alloc (Nat.le_refl _) o).mono HB2.out.size)
      have HB4 := Lib.hid (Below.grown (HB.out.trans ((hB3 _).mono HB.out.size)) hg2 (by rw [World.size_alloc]; have := HB2.out.size; omega) (fun k hk => (HO.out.row.lt k hk).1))
      have HO4 := Lib.hid hown2
      clear hown2 hg2 hB3 k0 k1 k2 k3 k4 f4
      refine resume ?_
      go_wp2_with fail
      go_roundw
      case rel => exact ⟨k + 1, _, by omega, by go_num, by rw [List.length_append, HNL.out]; rfl, HO4.out, Lib.hid (by unfold mmb; rw [List.map_append]; have := HT.out; unfold mmb at this; rw [this, ← mmb, take_succ_getD (d := default) (by rw [mmb_len]; exact hlt), HD.out]; rfl), HB4.out⟩
      case measure => simp [intOf]; omega
    · have HB := Lib.hid hbel
      clear hbel
      go_wp2_with fail
      go_ret
      exact ⟨_, new, rfl, HO.out, by have := HT.out; rwa [List.take_of_length_le (by rw [mmb_len]; omega)] at this, HB.out⟩
end Go.Proofs.Ythddacnnhmcoaaa
