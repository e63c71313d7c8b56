/-
  The reference's answers for types: PartOf, Part, Ahead, Offset; and whether two lists of numbers are the same. And what stands on it: AppS, TypOwn, TypSame, TypTwin, ShOwn, MmLoops.
-/
import Derived.Test.YtbffebcjimhapaaGreatDoorMg2
import Derived.Test.YtbffebcjimhapaaGreatDoorMg3
import Derived.Test.YtbffebcjimhapaaGreatDoorMg4
import Derived.Test.YtbffebcjimhapaaGreatDoorMg5
import Derived.Test.YtbffebcjimhapaaGreatDoorMg6
import Derived.Outline
import Derived.BigQuiet
import Derived.Deep.QuietTactic
import Derived.OwnWalk
import Derived.Test.YtbffebcjimhapaaGreatDoorProg
import Derived.Lib.Hide
namespace Go.Proofs.YtbffebcjimhapaaGreatDoor
set_option linter.unusedVariables false
set_option linter.unusedSimpArgs false
open Go.ChangeShapes Go.WideShapes Go.ChangeAt Go.RowKit
section
variable {w : World} {A : Option Addr} {c : Nat} {rows : List TyR}
theorem TabIn.row (h : TabIn w A c rows) {i : Nat} (hi : i < rows.length) : (rows.getD i default).Ok w 0 w.heap.size := h.rows.ok _ (mem_getD (d := default) hi)
end
theorem take_eq_succ {α : Type} {d : α} {xs ys : List α} {k : Nat} (h : xs.take k = ys.take k) (h1 : k < xs.length) (h2 : k < ys.length) (e : xs.getD k d = ys.getD k d) : xs.take (k + 1) = ys.take (k + 1) := by
 rw [take_succ_getD (d := d) h1, take_succ_getD (d := d) h2, h, e]
theorem ne_of_getD {α : Type} {d : α} {xs ys : List α} {k : Nat} (e : xs.getD k d ≠ ys.getD k d) : xs ≠ ys := fun h => e (by rw [h])
theorem sameInts_any {w : World} {lo lo' B B' : Nat} {A A' : Option Addr} {c c' : Nat} {xs ys : List Int} (hh : Hdr A xs.length c) (hx : IntsAt w lo B A xs) (hh' : Hdr A' ys.length c') (hy : IntsAt w lo' B' A' ys) :
 Calls Tryz.prog 113 #[.slice A xs.length c, .slice A' ys.length c'] w fun e w' => e = .returned (.bool (decide (xs = ys))) ∧ Below w.heap.size w w' := by
 have hl := Nat.le_trans hh.fit hh.cap
 have hl' := Nat.le_trans hh'.fit hh'.cap
 unfold maxLen at hl hl'
 have HX := Lib.hid hx
 have HY := Lib.hid hy
 clear hx hy hh hh'
 by_cases hlen : xs.length = ys.length
 · have q : (xs.length : Int) = ys.length := by omega
   go_enter Tryz.func113, Tryz.ntmps113
   go_wp2_with fail
   go_loopw [5] (fun i wr => ∃ k : Nat, k ≤ xs.length ∧ i = .int .i64 k ∧ Hid (xs.take k = ys.take k) ∧ Below w.heap.size w wr) (fun i _ => xs.length - (intOf i).toNat)
   case atStart => exact ⟨0, Nat.zero_le _, rfl, Lib.hid rfl, Below.refl _ _⟩
   case round =>
    obtain ⟨k, hk, rfl, HT, hbel⟩ := hrel
    have HB := Lib.hid hbel
    clear hbel
    by_cases hlt : k < xs.length
    · obtain ⟨b, off, x, rfl, hcell, HE⟩ := (HX.out.cell hlt)
      obtain ⟨b', off', y, rfl, hcell', HE'⟩ := (HY.out.cell (k := k) (by omega))
      have d1 := (HB.out.cell (p := ⟨b, off + k, none⟩) (World.block_lt_of_cell? w _ hcell)).trans hcell
      have d2 := (HB.out.cell (p := ⟨b', off' + k, none⟩) (World.block_lt_of_cell? w _ hcell')).trans hcell'
      clear hcell hcell'
      by_cases hxy : x = y
      · subst hxy
        go_wp2_with fail
        go_quiet (fail)
        go_wp2_with fail
        go_roundw
        case rel => exact ⟨k + 1, by omega, by go_num, Lib.hid (take_eq_succ (d := 0) HT.out hlt (by omega) (by rw [HE.out, HE'.out])), belowDrewN HB.out _⟩
        case measure => simp [intOf]; omega
      · have hne : (x == y) = false := by simpa using hxy
        have HN : Hid (xs ≠ ys) := Lib.hid (ne_of_getD (d := 0) (k := k) (by rw [HE.out, HE'.out]; exact hxy))
        go_wp2_with fail
        go_quiet (fail)
        go_wp2_with fail
        go_ret
        exact ⟨ret_bool (by rw [decide_eq_false HN.out]), belowDrewN HB.out _⟩
    · go_wp2_with fail
      go_ret
      exact ⟨ret_bool (by rw [decide_eq_true]; have := HT.out; rwa [List.take_of_length_le (by omega), List.take_of_length_le (by omega)] at this), HB.out⟩
 · have q : ¬ (xs.length : Int) = ys.length := by omega
   have HN : Hid (xs ≠ ys) := Lib.hid (fun h => hlen (by rw [h]))
   clear hlen
   go_enter Tryz.func113, Tryz.ntmps113
   go_wp2_with fail
   go_ret
   exact ⟨ret_bool (by rw [decide_eq_false HN.out]), Below.refl _ _⟩
end Go.Proofs.YtbffebcjimhapaaGreatDoor
namespace Go.Proofs.YtbffebcjimhapaaGreatDoor
set_option linter.unusedVariables false
set_option linter.unusedSimpArgs false
open Go.RowKit
theorem wpList_appS {P : Program} {w : World} {ops : Array Oper} {rest : List Oper} {o : Oper} {a : Act} {Q : Exit → Act → World → Prop} (hgd : o.guard = none) (s x : Operand) (t e : TypeId)
 (ho : o.op = .call { callee := .builtin .append, args := #[s, x], argTypes := #[t, t] })
 (i : TypeInfo) (z : Value) (size bytes : Nat) (ht : P.underlying t = some (.slice e)) (hi : P.info? e = some i) (hz : i.zero = some z)
 (hsize : i.size = size) (hby : i.bytes = bytes) (hzs : z.cells.size = size) (hsz : 0 < size)
 (base : Nat) (v : Value) (n : Nat) (xs : List Value) (hs : a.eval s = v) (hown : w.ownsRow base e size v n xs)
 (news : Array Value) (hx : a.eval x = .slice (some ⟨w.heap.size, 0, none⟩) 1 1) (hl : news.size = size) (h1 : ∀ u ∈ news.toList, u.oneCell' = true)
 (hn : n ≤ 1000000) (hbb : bytes ≤ 1000) (hbase : base ≤ w.heap.size)
 (h : ∀ v' w', w'.ownsRow base e size v' (n + 1) (xs ++ news.toList) → (w.alloc (.cells news e)).grownBy w' v.ownBlock → wpList P ops Q rest (a.put o.dst v') w') :
 wpList P ops Q (o :: rest) a (w.alloc (.cells news e)) := by
 refine wpList_app hgd s x t ho base e i z size bytes ht hi hz hsize hby hzs hsz v n xs hs (World.ownsRow.alloc hown _) _ 1 1 news.toList hx (fun h => by cases h) (by rw [Array.length_toList, hl, Nat.one_mul]) ?_ h1 ?_ ?_ ?_ h
 · intro ad had j u hj
   injection had with had
   subst had
   rw [add_lit, Nat.zero_add, World.cell?, show (w.alloc (.cells news e)).heap = w.heap.push (.cells news e) from rfl, Array.getElem?_push_size]
   simpa using hj
 · unfold maxLen; omega
 · have : (n + 1) * bytes ≤ 1000001 * 1000 := Nat.mul_le_mul (by omega) hbb
   omega
 · rw [World.size_alloc]; omega
theorem ownsRow_keep {w w' : World} {lo : Nat} {e : TypeId} {size n : Nat} {v : Value} {xs : List Value} (h : w.ownsRow lo e size v n xs) (hb : Below w.heap.size w w') : w'.ownsRow lo e size v n xs := by
 refine ⟨h.1, ?_⟩
 rcases h.2 with h1 | ⟨g, cap, cur, h1, h2, h3, h4⟩
 · exact .inl h1
 · exact .inr ⟨g, cap, cur, h1, h2, (hb.block g (Array.getElem?_eq_some_iff.1 h3).1).trans h3, h4⟩
theorem ownsRow_more {w : World} {lo lo' : Nat} {e : TypeId} {size n : Nat} {v : Value} {xs : List Value} (h : w.ownsRow lo e size v n xs) (hl : lo' ≤ lo) : w.ownsRow lo' e size v n xs := by
 refine ⟨h.1, ?_⟩
 rcases h.2 with h1 | ⟨g, cap, cur, h1, h2, h3⟩
 · exact .inl h1
 · exact .inr ⟨g, cap, cur, h1, Nat.le_trans hl h2, h3⟩
theorem ownsRow_form {w : World} {lo : Nat} {e : TypeId} {size n : Nat} {v : Value} {xs : List Value} (h : w.ownsRow lo e size v n xs) (hsz : 0 < size) :
 ∃ A c, v = .slice A n c ∧ n ≤ c ∧ c ≤ maxLen ∧ (A = none → n = 0 ∧ c = 0) ∧ CellsAt w lo w.heap.size A size n fun i j => xs.getD (i * size + j) undef := by
 rcases h.2 with ⟨rfl, rfl⟩ | ⟨g, cap, cur, rfl, hb, hh, hle, hm, hs, htk⟩
 · exact ⟨none, 0, rfl, Nat.le_refl _, by unfold maxLen; omega, fun _ => ⟨rfl, rfl⟩, CellsAt.empty⟩
 · refine ⟨_, cap, rfl, hle, hm, (fun e => by cases e), fun hn => ⟨g, 0, rfl, hb, (Array.getElem?_eq_some_iff.1 hh).1, fun i hi j hj => ?_⟩⟩
   have hij : i * size + j < n * size := by
    have := Nat.mul_le_mul_right size (show i + 1 ≤ n from hi)
    rw [Nat.add_mul, Nat.one_mul] at this
    omega
   have hlen := h.1
   rw [Nat.zero_add, cell_of_row w g (i * size + j) cur e (0, 0) hh, ← Array.getElem?_toList, ← (show (cur.toList.take (n * size))[i * size + j]? = cur.toList[i * size + j]? from by rw [List.getElem?_take, if_pos hij]), htk]
   show _ = some (xs.getD (i * size + j) undef)
   rw [List.getD_eq_getElem?_getD, List.getElem?_eq_getElem (by omega)]
   rfl
end Go.Proofs.YtbffebcjimhapaaGreatDoor
namespace Go.Proofs.YtbffebcjimhapaaGreatDoor
set_option linter.unusedVariables false
set_option linter.unusedSimpArgs false
open Go.ChangeShapes Go.WideShapes Go.ChangeAt Go.RowKit
def TyR.cells4 (r : TyR) : List Value := [.int .u8 r.kind, .int .i64 r.elem, .int .i64 r.many, .slice r.pa r.parts.length r.pc]
structure OwnTys (w : World) (lo : Nat) (v : Value) (rows : List TyR) : Prop where
 row : w.ownsRow lo 78 4 v rows.length (rows.flatMap TyR.cells4)
 inner : ∀ r ∈ rows, OwnInts w lo (.slice r.pa r.parts.length r.pc) r.parts ∧ r.kind ≤ 255
theorem flat_getD {α : Type} (f : α → List Value) (size : Nat) (hf : ∀ x, (f x).length = size) (d : α) : ∀ (l : List α) (i j : Nat), i < l.length → j < size → (l.flatMap f).getD (i * size + j) undef = (f (l.getD i d)).getD j undef
 | x :: l, 0, j, _, hj => by
   rw [List.flatMap_cons, Nat.zero_mul, Nat.zero_add, List.getD_eq_getElem?_getD, List.getElem?_append_left (by rw [hf]; exact hj), ← List.getD_eq_getElem?_getD]
   rfl
 | x :: l, i + 1, j, hi, hj => by
   rw [List.flatMap_cons, List.getD_eq_getElem?_getD, List.getElem?_append_right (by rw [hf, Nat.add_mul]; omega), hf, show (i + 1) * size + j - size = i * size + j by rw [Nat.add_mul]; omega, ← List.getD_eq_getElem?_getD, flat_getD f size hf d l i j (by simpa using hi) hj]
   rfl
theorem own_hdr {w : World} {lo : Nat} {A : Option Addr} {c : Nat} {xs : List Int} (h : OwnInts w lo (.slice A xs.length c) xs) : Hdr A xs.length c ∧ IntsAt w lo w.heap.size A xs := by
 obtain ⟨A', c', e, hnil, hints, hle, hcap⟩ := h.form
 injection e with e1 e2 e3
 subst e1 e3
 exact ⟨⟨hle, hcap, hnil⟩, hints⟩
section
variable {w w' : World} {lo lo' : Nat} {v : Value} {rows : List TyR}
theorem OwnTys.nil (w : World) (lo : Nat) : OwnTys w lo (.slice none 0 0) [] := ⟨World.ownsRow_nil _ _ _ _, fun r hr => by cases hr⟩
theorem OwnTys.keep (h : OwnTys w lo v rows) (hb : Below w.heap.size w w') : OwnTys w' lo v rows := ⟨ownsRow_keep h.row hb, fun r hr => ⟨(h.inner r hr).1.keep hb, (h.inner r hr).2⟩⟩
theorem OwnTys.more (h : OwnTys w lo v rows) (hl : lo' ≤ lo) : OwnTys w lo' v rows := ⟨ownsRow_more h.row hl, fun r hr => ⟨(h.inner r hr).1.more hl, (h.inner r hr).2⟩⟩
theorem OwnTys.form (h : OwnTys w lo v rows) : ∃ A c, v = .slice A rows.length c ∧ Hdr A rows.length c ∧ TypsAt w lo w.heap.size A rows := by
 obtain ⟨A, c, hv, hle, hcap, hnil, hc⟩ := ownsRow_form h.row (by omega)
 refine ⟨A, c, hv, ⟨hle, hcap, hnil⟩, ⟨hc.congr fun i hi j hj => ?_, fun r hr => ?_⟩⟩
 · rw [flat_getD TyR.cells4 4 (fun _ => rfl) default rows i j hi hj]
   match j, hj with
   | 0, _ => rfl
   | 1, _ => rfl
   | 2, _ => rfl
   | 3, _ => rfl
 · obtain ⟨h1, h2⟩ := h.inner r hr
   obtain ⟨h3, h4⟩ := own_hdr h1
   exact ⟨h2, h3, h4⟩
theorem OwnTys.push {r : TyR} (h : OwnTys w lo v rows) {v' : Value} (hr : w'.ownsRow lo 78 4 v' (rows.length + 1) (rows.flatMap TyR.cells4 ++ r.cells4))
 (hg : w.grownBy w' v.ownBlock) (hne : ∀ r ∈ rows, (Value.slice r.pa r.parts.length r.pc).ownBlock = none ∨ (Value.slice r.pa r.parts.length r.pc).ownBlock ≠ v.ownBlock) (hi : OwnInts w lo (.slice r.pa r.parts.length r.pc) r.parts) (hne' : (Value.slice r.pa r.parts.length r.pc).ownBlock = none ∨ (Value.slice r.pa r.parts.length r.pc).ownBlock ≠ v.ownBlock) (hk : r.kind ≤ 255) : OwnTys w' lo v' (rows ++ [r]) := by
 refine ⟨by rw [List.length_append, List.flatMap_append]; simpa using hr, fun q hq => ?_⟩
 rcases List.mem_append.1 hq with hq | hq
 · obtain ⟨h1, h2⟩ := h.inner q hq
   exact ⟨World.ownsRow.kept h1 hg (hne q hq), h2⟩
 · obtain rfl := List.mem_singleton.1 hq
   exact ⟨World.ownsRow.kept hi hg hne', hk⟩
end
theorem rows_ne {w : World} {lo lo' : Nat} {e e' : TypeId} {size size' n n' : Nat} {v v' : Value} {xs xs' : List Value} (h : w.ownsRow lo e size v n xs) (h' : w.ownsRow lo' e' size' v' n' xs') (hne : e ≠ e') : v.ownBlock = none ∨ v.ownBlock ≠ v'.ownBlock := by
 rcases h.2 with ⟨rfl, _⟩ | ⟨g, cap, cur, rfl, hb, hh, _⟩
 · exact .inl rfl
 · right
   rcases h'.2 with ⟨rfl, _⟩ | ⟨g', cap', cur', rfl, hb', hh', _⟩
   · simp [Value.ownBlock]
   · intro he
     have : g = g' := by simpa [Value.ownBlock] using he
     subst this
     rw [hh] at hh'
     injection hh' with hh'
     injection hh' with _ ht _
     exact hne ht
theorem tbl_take_succ {xs ys : List TyR} {k : Nat} (h : (tbl xs).take k = (tbl ys).take k) (h1 : k < xs.length) (h2 : k < ys.length) (e : (xs.getD k default).data = (ys.getD k default).data) : (tbl xs).take (k + 1) = (tbl ys).take (k + 1) :=
 take_eq_succ (d := default) h (by rw [tbl_len]; exact h1) (by rw [tbl_len]; exact h2) (by rw [tbl_at h1, tbl_at h2, e])
theorem tbl_ne {xs ys : List TyR} {k : Nat} (h1 : k < xs.length) (h2 : k < ys.length) (e : (xs.getD k default).data ≠ (ys.getD k default).data) : tbl xs ≠ tbl ys :=
 ne_of_getD (d := default) (k := k) (by rw [tbl_at h1, tbl_at h2]; exact e)
set_option maxRecDepth 100000 in
set_option maxHeartbeats 1600000 in
theorem rsame_any {w : World} {A A' : Option Addr} {c c' : Nat} {xs ys : List TyR} (h : TabIn w A c xs) (h' : TabIn w A' c' ys) :
 Calls Tryz.prog 29 #[.slice A xs.length c, .slice A' ys.length c'] w fun e w' => e = .returned (.bool (decide (tbl xs = tbl ys))) ∧ Below w.heap.size w w' := by
 have hl := h.len
 have hl' := h'.len
 have HX := Lib.hid h
 have HY := Lib.hid h'
 clear h h'
 by_cases hlen : xs.length = ys.length
 · have q : (xs.length : Int) = ys.length := by omega
   go_enter Tryz.func29, Tryz.ntmps29
   go_wp2_with fail
   go_loopw [5] (fun i wr => ∃ k : Nat, k ≤ xs.length ∧ i = .int .i64 k ∧ Hid ((tbl xs).take k = (tbl ys).take k) ∧ Below w.heap.size w wr) (fun i _ => xs.length - (intOf i).toNat)
   case atStart => exact ⟨0, Nat.zero_le _, rfl, Lib.hid rfl, Below.refl _ _⟩
   case round =>
    obtain ⟨k, hk, rfl, HT, hbel⟩ := hrel
    by_cases hlt : k < xs.length
    · have hlt' : k < ys.length := by omega
      have ⟨b, off, hA, hbl, c0, c1, c2, c3⟩ := (HX.out.rows.elem hlt).at_
      have ⟨b', off', hA', hbl', c0', c1', c2', c3'⟩ := (HY.out.rows.elem hlt').at_
      subst hA hA'
      have d0 := (hbel.cell (p := ⟨b, off + k * 4, none⟩) hbl).trans c0
      have d1 := (hbel.cell (p := ⟨b, off + k * 4 + 1, none⟩) hbl).trans c1
      have d2 := (hbel.cell (p := ⟨b, off + k * 4 + 2, none⟩) hbl).trans c2
      have d3 := (hbel.cell (p := ⟨b, off + k * 4 + 3, none⟩) hbl).trans c3
      have d0' := (hbel.cell (p := ⟨b', off' + k * 4, none⟩) hbl').trans c0'
      have d1' := (hbel.cell (p := ⟨b', off' + k * 4 + 1, none⟩) hbl').trans c1'
      have d2' := (hbel.cell (p := ⟨b', off' + k * 4 + 2, none⟩) hbl').trans c2'
      have d3' := (hbel.cell (p := ⟨b', off' + k * 4 + 3, none⟩) hbl').trans c3'
      have hr := ((HX.out.row hlt).keep hbel).more (Nat.le_refl _) hbel.size
      have hr' := ((HY.out.row hlt').keep hbel).more (Nat.le_refl _) hbel.size
      have HB := Lib.hid hbel
      clear hbel c0 c1 c2 c3 c0' c1' c2' c3'
      have HNE : Hid ((xs.getD k default).data ≠ (ys.getD k default).data → tbl xs ≠ tbl ys) := Lib.hid (tbl_ne hlt hlt')
      have HEQ : Hid ((xs.getD k default).data = (ys.getD k default).data → (tbl xs).take (k + 1) = (tbl ys).take (k + 1)) := Lib.hid (tbl_take_succ HT.out hlt hlt')
      generalize xs.getD k default = r at d0 d1 d2 d3 hr HNE HEQ
      generalize ys.getD k default = r' at d0' d1' d2' d3' hr' HNE HEQ
      obtain ⟨κ, el, ma, pa, pc, ps⟩ := r
      obtain ⟨κ', el', ma', pa', pc', ps'⟩ := r'
      simp only at d0 d1 d2 d3 d0' d1' d2' d3'
      have hlp := Nat.le_trans hr.hdr.fit hr.hdr.cap
      have hlp' := Nat.le_trans hr'.hdr.fit hr'.hdr.cap
      unfold maxLen at hlp hlp'
      simp only at hlp hlp'
      have HR := Lib.hid hr
      have HR' := Lib.hid hr'
      clear hr hr'
      by_cases e0 : κ = κ'
      · subst e0
        by_cases e1 : el = el'
        · subst e1
          by_cases e2 : ma = ma'
          · subst e2
            by_cases e3 : ps.length = ps'.length
            · have qq : (ps.length : Int) = ps'.length := by omega
              go_wp2_with fail
              go_quiet (fail)
              go_wp2_with fail
              go_loopw [6] (fun i wo => ∃ j : Nat, j ≤ ps.length ∧ i = .int .i64 j ∧ Hid (ps.take j = ps'.take j) ∧ Below wr.heap.size wr wo) (fun i _ => ps.length - (intOf i).toNat)
              case atStart => exact ⟨0, Nat.zero_le _, rfl, Lib.hid rfl, belowDrewN (Below.refl _ _) _⟩
              case round =>
               obtain ⟨j, hj, rfl, HP, hbi⟩ := hrel
               have f3 := (hbi.cell (p := ⟨b, off + k * 4 + 3, none⟩) (World.block_lt_of_cell? _ _ d3)).trans d3
               have f3' := (hbi.cell (p := ⟨b', off' + k * 4 + 3, none⟩) (World.block_lt_of_cell? _ _ d3')).trans d3'
               have HI := Lib.hid hbi
               by_cases hj2 : j < ps.length
               · obtain ⟨bb, oo, x, hpa, hcell, HE⟩ := ((HR.out.keep hbi).ints.cell hj2)
                 obtain ⟨bb', oo', y, hpa', hcell', HE'⟩ := ((HR'.out.keep hbi).ints.cell (k := j) (by show j < ps'.length; omega))
                 simp only at hpa hpa' HE HE'
                 subst hpa hpa'
                 clear hbi
                 by_cases hxy : x = y
                 · subst hxy
                   go_wp2_with fail
                   go_quiet (fail)
                   go_wp2_with fail
                   go_roundw
                   case rel => exact ⟨j + 1, by omega, by go_num, Lib.hid (take_eq_succ (d := 0) HP.out hj2 (by omega) (by rw [HE.out, HE'.out])), belowDrewN HI.out _⟩
                   case measure => simp [intOf]; omega
                 · have hne : (x == y) = false := by simpa using hxy
                   have HN : Hid (tbl xs ≠ tbl ys) := Lib.hid (HNE.out (fun h => by
                    injection h with _ _ _ h
                    exact ne_of_getD (d := 0) (k := j) (by rw [HE.out, HE'.out]; exact hxy) h))
                   go_wp2_with fail
                   go_quiet (fail)
                   go_wp2_with fail
                   go_ret
                   exact ⟨ret_bool (by rw [decide_eq_false HN.out]), belowDrewN (HB.out.trans (HI.out.mono HB.out.size)) _⟩
               · clear hbi
                 have HPS : Hid (ps = ps') := Lib.hid (by have := HP.out; rwa [List.take_of_length_le (by omega), List.take_of_length_le (by omega)] at this)
                 go_wp2_with fail
                 go_roundw
                 case rel => exact ⟨k + 1, by omega, by go_num, Lib.hid (HEQ.out (by show (⟨κ, el, ma, ps⟩ : Ty) = ⟨κ, el, ma, ps'⟩; rw [HPS.out])), HB.out.trans (HI.out.mono HB.out.size)⟩
                 case measure => simp [intOf]; omega
            · have qq : ((ps.length : Int) == ps'.length) = false := by simp; omega
              have qq2 : ((ps.length : Int) != ps'.length) = true := by simp; omega
              have E3 := Lib.hid e3
              clear e3
              have HN := Lib.hid (HNE.out (fun h => E3.out (by injection h with _ _ _ h; exact congrArg List.length h)))
              go_wp2_with fail
              go_quiet (fail)
              go_wp2_with fail
              go_ret
              exact ⟨ret_bool (by rw [decide_eq_false HN.out]), belowDrewN HB.out _⟩
          · have qq : (ma == ma') = false := by simpa using e2
            have qq2 : (ma != ma') = true := by simpa using e2
            have E2 := Lib.hid e2
            clear e2
            have HN := Lib.hid (HNE.out (fun h => E2.out (by injection h with _ _ h _)))
            go_wp2_with fail
            go_quiet (fail)
            go_wp2_with fail
            go_ret
            exact ⟨ret_bool (by rw [decide_eq_false HN.out]), belowDrewN HB.out _⟩
        · have qq : (el == el') = false := by simpa using e1
          have qq2 : (el != el') = true := by simpa using e1
          have E1 := Lib.hid e1
          clear e1
          have HN := Lib.hid (HNE.out (fun h => E1.out (by injection h with _ h _ _)))
          go_wp2_with fail
          go_quiet (fail)
          go_wp2_with fail
          go_ret
          exact ⟨ret_bool (by rw [decide_eq_false HN.out]), belowDrewN HB.out _⟩
      · have qq : ((κ : Int) == κ') = false := by simp; omega
        have qq2 : ((κ : Int) != κ') = true := by simp; omega
        have HN := Lib.hid (HNE.out (fun h => e0 (by injection h with h _ _ _)))
        go_wp2_with fail
        go_quiet (fail)
        go_wp2_with fail
        go_ret
        exact ⟨ret_bool (by rw [decide_eq_false HN.out]), belowDrewN HB.out _⟩
    · have HB := Lib.hid hbel
      clear hbel
      go_wp2_with fail
      go_ret
      exact ⟨ret_bool (by rw [decide_eq_true]; have := HT.out; rwa [List.take_of_length_le (by rw [tbl_len]; omega), List.take_of_length_le (by rw [tbl_len]; omega)] at this), HB.out⟩
 · have q : ¬ (xs.length : Int) = ys.length := by omega
   have HN : Hid (tbl xs ≠ tbl ys) := Lib.hid (fun h => hlen (by rw [← tbl_len xs, h, tbl_len]))
   clear hlen
   go_enter Tryz.func29, Tryz.ntmps29
   go_wp2_with fail
   go_ret
   exact ⟨ret_bool (by rw [decide_eq_false HN.out]), Below.refl _ _⟩
theorem typeInfo : (Tryz.prog.info? 78).map (fun i => (i.zero, i.size, i.bytes)) = some (some (.agg #[.int .u8 0, .int .i64 0, .int .i64 0, .slice none 0 0]), 4, 48) := by kernel_rfl
theorem OwnInts.zero (w : World) (lo g : Nat) (h : lo ≤ w.heap.size) (hg : g = w.heap.size) : OwnInts (w.alloc (.cells #[] 3)) lo (.slice (some ⟨g, 0, none⟩) 0 0) [] := by
 subst hg
 refine ⟨rfl, .inr ⟨w.heap.size, 0, #[], rfl, h, ?_, Nat.le_refl 0, by unfold maxLen; omega, rfl, rfl⟩⟩
 show (w.heap.push _)[w.heap.size]? = _
 simp
theorem size_set (w : World) (a : Addr) (v : Value) : (w.setCell a v).heap.size = w.heap.size := by simp [World.setCell]
theorem OwnInts.far {w : World} {lo g j : Nat} {t : TypeId} {cs : Array Value} {v u : Value} {xs : List Int} (h : OwnInts w lo v xs) (hg : Blk w g t cs) (hne : 3 ≠ t) : OwnInts (w.setCell ⟨g, j, none⟩ u) lo v xs := by
 have hn := h.ne hg hne
 unfold OwnInts at h ⊢
 refine ⟨h.1, ?_⟩
 rcases h.2 with h1 | ⟨g', cap, cur, rfl, h2, h3, h4⟩
 · exact .inl h1
 · refine .inr ⟨g', cap, cur, rfl, h2, (Below.heap_setCell w _ u g' ?_).trans h3, h4⟩
   intro e
   apply hn
   show some g' = some g
   rw [e]
def SomeTwin (t : List Ty) (w : World) (e : Ending) (w' : World) : Prop := ∃ v rows, e = .returned v ∧ OwnTys w' w.heap.size v rows ∧ tbl rows = t ∧ Below w.heap.size w w'
structure Spare (t : TypeId) (w w' : World) : Prop where
 size : w.heap.size ≤ w'.heap.size
 block : ∀ (k : Nat) (cs : Array Value) (e : TypeId) (fr : Nat × Nat), w.heap[k]? = some (Obj.cells cs e fr) → e ≠ t → w'.heap[k]? = some (Obj.cells cs e fr)
section
variable {t e : TypeId} {w w' w2 : World} {lo lo' size n : Nat} {v : Value} {xs : List Value}
theorem Spare.of (h : Below w.heap.size w w') : Spare t w w' := ⟨h.size, fun k cs e fr hk _ => (h.block k (Array.getElem?_eq_some_iff.1 hk).1).trans hk⟩
theorem Spare.trans (h : Spare t w w') (h' : Spare t w' w2) : Spare t w w2 := ⟨Nat.le_trans h.size h'.size, fun k cs e fr hk hne => h'.block k cs e fr (h.block k cs e fr hk hne) hne⟩
theorem Spare.set {g j : Nat} {cs : Array Value} (h : Blk w g t cs) (u : Value) : Spare t w (w.setCell ⟨g, j, none⟩ u) :=
 ⟨by rw [size_set]; exact Nat.le_refl _, fun k cs' e fr hk hne => (Below.heap_setCell w _ u k (fun hkg => by
   have h' : w.heap[g]? = some (.cells cs t (0, 0)) := h
   have hkg' : k = g := hkg
   rw [hkg', h'] at hk
   injection hk with hk
   injection hk with _ ht _
   exact hne ht.symm)).trans hk⟩
theorem Spare.grown (h : w.ownsRow lo t size v n xs) (hg : w.grownBy w' v.ownBlock) : Spare t w w' :=
 ⟨hg.size, fun k cs e fr hk hne => (hg.block k (Array.getElem?_eq_some_iff.1 hk).1 (fun hkv => by
   rcases h.2 with ⟨rfl, _⟩ | ⟨g', cap, cur, rfl, _, hh, _⟩
   · simp [Value.ownBlock] at hkv
   · have hkg : g' = k := by simpa [Value.ownBlock] using hkv.symm
     rw [← hkg, hh] at hk
     injection hk with hk
     injection hk with _ ht _
     exact hne ht.symm)).trans hk⟩
theorem ownsRow_spare (h : w.ownsRow lo e size v n xs) (hs : Spare t w w') (hne : e ≠ t) : w'.ownsRow lo e size v n xs := by
 refine ⟨h.1, ?_⟩
 rcases h.2 with h1 | ⟨g, cap, cur, h1, h2, h3, h4⟩
 · exact .inl h1
 · exact .inr ⟨g, cap, cur, h1, h2, hs.block _ _ _ _ h3 hne, h4⟩
theorem OwnInts.spare {xs : List Int} (h : OwnInts w lo v xs) (hs : Spare t w w') (hne : 3 ≠ t) : OwnInts w' lo v xs := ownsRow_spare h hs hne
theorem OwnTys.spare {rows : List TyR} (h : OwnTys w lo v rows) (hs : Spare t w w') (h1 : 3 ≠ t) (h2 : 78 ≠ t) : OwnTys w' lo v rows := ⟨ownsRow_spare h.row hs h2, fun r hr => ⟨(h.inner r hr).1.spare hs h1, (h.inner r hr).2⟩⟩
end
def InR.cells7 (r : InR) : List Value := [.int .u8 r.op, .int .i64 r.ty, .int .i64 r.a, .int .i64 r.b, .int .i64 r.n, .slice r.aa r.args.length r.ac, .slice r.fa r.from_.length r.fc]
structure InR.Own (w : World) (lo : Nat) (r : InR) : Prop where
 op : r.op ≤ 255
 args : OwnInts w lo (.slice r.aa r.args.length r.ac) r.args
 from_ : OwnInts w lo (.slice r.fa r.from_.length r.fc) r.from_
structure OwnIns (w : World) (lo : Nat) (v : Value) (rows : List InR) : Prop where
 row : w.ownsRow lo 74 7 v rows.length (rows.flatMap InR.cells7)
 inner : ∀ r ∈ rows, r.Own w lo
def BlR.cells5 (r : BlR) : List Value := [.slice r.ia r.ins.length r.ic, .int .u8 r.kind, .int .i64 r.a, .int .i64 r.to, .int .i64 r.els]
structure BlR.Own (w : World) (lo : Nat) (r : BlR) : Prop where
 kind : r.kind ≤ 255
 ins : OwnIns w lo (.slice r.ia r.ins.length r.ic) r.ins
structure OwnBls (w : World) (lo : Nat) (v : Value) (rows : List BlR) : Prop where
 row : w.ownsRow lo 71 5 v rows.length (rows.flatMap BlR.cells5)
 inner : ∀ r ∈ rows, r.Own w lo
def FuR.cells2 (r : FuR) : List Value := [.int .i64 r.sig, .slice r.ba r.blocks.length r.bc]
def FuR.Own (w : World) (lo : Nat) (r : FuR) : Prop := OwnBls w lo (.slice r.ba r.blocks.length r.bc) r.blocks
structure OwnFus (w : World) (lo : Nat) (v : Value) (rows : List FuR) : Prop where
 row : w.ownsRow lo 64 2 v rows.length (rows.flatMap FuR.cells2)
 inner : ∀ r ∈ rows, r.Own w lo
def From (lo : Nat) (A : Option Addr) (n : Nat) : Prop := 0 < n → ∃ b off, A = some ⟨b, off, none⟩ ∧ lo ≤ b
theorem CellsAt.from_ {w : World} {lo B size n : Nat} {A : Option Addr} {f : Nat → Nat → Value} (h : CellsAt w lo B A size n f) : From lo A n := fun hn => by
 obtain ⟨b, off, rfl, h1, _, _⟩ := h hn
 exact ⟨b, off, rfl, h1⟩
structure InR.From (lo : Nat) (r : InR) : Prop where
 args : Go.Proofs.YtbffebcjimhapaaGreatDoor.From lo r.aa r.args.length
 from_ : Go.Proofs.YtbffebcjimhapaaGreatDoor.From lo r.fa r.from_.length
structure BlR.From (lo : Nat) (r : BlR) : Prop where
 head : Go.Proofs.YtbffebcjimhapaaGreatDoor.From lo r.ia r.ins.length
 ins : ∀ x ∈ r.ins, x.From lo
structure FuR.From (lo : Nat) (r : FuR) : Prop where
 head : Go.Proofs.YtbffebcjimhapaaGreatDoor.From lo r.ba r.blocks.length
 blocks : ∀ b ∈ r.blocks, b.From lo
structure PrR.From (lo : Nat) (r : PrR) : Prop where
 types : Go.Proofs.YtbffebcjimhapaaGreatDoor.From lo r.ta r.types.length
 funs : Go.Proofs.YtbffebcjimhapaaGreatDoor.From lo r.fa r.funs.length
 inner : ∀ f ∈ r.funs, f.From lo
section
variable {t : TypeId} {w w' : World} {lo lo' : Nat} {v : Value}
theorem InR.Own.spare {r : InR} (h : r.Own w lo) (hs : Spare t w w') (h1 : 3 ≠ t) : r.Own w' lo := ⟨h.op, h.args.spare hs h1, h.from_.spare hs h1⟩
theorem OwnIns.spare {rows : List InR} (h : OwnIns w lo v rows) (hs : Spare t w w') (h1 : 3 ≠ t) (h2 : 74 ≠ t) : OwnIns w' lo v rows := ⟨ownsRow_spare h.row hs h2, fun r hr => (h.inner r hr).spare hs h1⟩
theorem BlR.Own.spare {r : BlR} (h : r.Own w lo) (hs : Spare t w w') (h1 : 3 ≠ t) (h2 : 74 ≠ t) : r.Own w' lo := ⟨h.kind, h.ins.spare hs h1 h2⟩
theorem OwnBls.spare {rows : List BlR} (h : OwnBls w lo v rows) (hs : Spare t w w') (h1 : 3 ≠ t) (h2 : 74 ≠ t) (h3 : 71 ≠ t) : OwnBls w' lo v rows := ⟨ownsRow_spare h.row hs h3, fun r hr => (h.inner r hr).spare hs h1 h2⟩
theorem OwnFus.spare {rows : List FuR} (h : OwnFus w lo v rows) (hs : Spare t w w') (h1 : 3 ≠ t) (h2 : 74 ≠ t) (h3 : 71 ≠ t) (h4 : 64 ≠ t) : OwnFus w' lo v rows := ⟨ownsRow_spare h.row hs h4, fun r hr => OwnBls.spare (h.inner r hr) hs h1 h2 h3⟩
theorem InR.Own.keep {r : InR} (h : r.Own w lo) (hb : Below w.heap.size w w') : r.Own w' lo := ⟨h.op, h.args.keep hb, h.from_.keep hb⟩
theorem OwnIns.keep {rows : List InR} (h : OwnIns w lo v rows) (hb : Below w.heap.size w w') : OwnIns w' lo v rows := ⟨ownsRow_keep h.row hb, fun r hr => (h.inner r hr).keep hb⟩
theorem OwnBls.keep {rows : List BlR} (h : OwnBls w lo v rows) (hb : Below w.heap.size w w') : OwnBls w' lo v rows := ⟨ownsRow_keep h.row hb, fun r hr => ⟨(h.inner r hr).kind, (h.inner r hr).ins.keep hb⟩⟩
theorem OwnFus.keep {rows : List FuR} (h : OwnFus w lo v rows) (hb : Below w.heap.size w w') : OwnFus w' lo v rows := ⟨ownsRow_keep h.row hb, fun r hr => OwnBls.keep (h.inner r hr) hb⟩
theorem InR.Own.more {r : InR} (h : r.Own w lo) (hl : lo' ≤ lo) : r.Own w lo' := ⟨h.op, h.args.more hl, h.from_.more hl⟩
theorem OwnIns.more {rows : List InR} (h : OwnIns w lo v rows) (hl : lo' ≤ lo) : OwnIns w lo' v rows := ⟨ownsRow_more h.row hl, fun r hr => (h.inner r hr).more hl⟩
theorem OwnBls.more {rows : List BlR} (h : OwnBls w lo v rows) (hl : lo' ≤ lo) : OwnBls w lo' v rows := ⟨ownsRow_more h.row hl, fun r hr => ⟨(h.inner r hr).kind, (h.inner r hr).ins.more hl⟩⟩
theorem OwnFus.more {rows : List FuR} (h : OwnFus w lo v rows) (hl : lo' ≤ lo) : OwnFus w lo' v rows := ⟨ownsRow_more h.row hl, fun r hr => OwnBls.more (h.inner r hr) hl⟩
theorem OwnIns.nil (w : World) (lo : Nat) : OwnIns w lo (.slice none 0 0) [] := ⟨World.ownsRow_nil _ _ _ _, fun r hr => by cases hr⟩
theorem OwnBls.nil (w : World) (lo : Nat) : OwnBls w lo (.slice none 0 0) [] := ⟨World.ownsRow_nil _ _ _ _, fun r hr => by cases hr⟩
theorem OwnFus.nil (w : World) (lo : Nat) : OwnFus w lo (.slice none 0 0) [] := ⟨World.ownsRow_nil _ _ _ _, fun r hr => by cases hr⟩
theorem OwnIns.push {rows : List InR} {r : InR} (h : OwnIns w lo v rows) {v' : Value} (hr : w'.ownsRow lo 74 7 v' (rows.length + 1) (rows.flatMap InR.cells7 ++ r.cells7)) (hg : w.grownBy w' v.ownBlock) (hi : r.Own w lo) : OwnIns w' lo v' (rows ++ [r]) := by
 have hs := Spare.grown h.row hg
 refine ⟨by rw [List.length_append, List.flatMap_append]; simpa using hr, fun q hq => ?_⟩
 rcases List.mem_append.1 hq with hq | hq
 · exact (h.inner q hq).spare hs (by decide)
 · obtain rfl := List.mem_singleton.1 hq
   exact hi.spare hs (by decide)
theorem OwnBls.push {rows : List BlR} {r : BlR} (h : OwnBls w lo v rows) {v' : Value} (hr : w'.ownsRow lo 71 5 v' (rows.length + 1) (rows.flatMap BlR.cells5 ++ r.cells5)) (hg : w.grownBy w' v.ownBlock) (hi : r.Own w lo) : OwnBls w' lo v' (rows ++ [r]) := by
 have hs := Spare.grown h.row hg
 refine ⟨by rw [List.length_append, List.flatMap_append]; simpa using hr, fun q hq => ?_⟩
 rcases List.mem_append.1 hq with hq | hq
 · exact (h.inner q hq).spare hs (by decide) (by decide)
 · obtain rfl := List.mem_singleton.1 hq
   exact hi.spare hs (by decide) (by decide)
theorem OwnFus.push {rows : List FuR} {r : FuR} (h : OwnFus w lo v rows) {v' : Value} (hr : w'.ownsRow lo 64 2 v' (rows.length + 1) (rows.flatMap FuR.cells2 ++ r.cells2)) (hg : w.grownBy w' v.ownBlock) (hi : r.Own w lo) : OwnFus w' lo v' (rows ++ [r]) := by
 have hs := Spare.grown h.row hg
 refine ⟨by rw [List.length_append, List.flatMap_append]; simpa using hr, fun q hq => ?_⟩
 rcases List.mem_append.1 hq with hq | hq
 · exact OwnBls.spare (h.inner q hq) hs (by decide) (by decide) (by decide)
 · obtain rfl := List.mem_singleton.1 hq
   exact OwnBls.spare hi hs (by decide) (by decide) (by decide)
theorem OwnIns.form {rows : List InR} (h : OwnIns w lo v rows) : ∃ A c, v = .slice A rows.length c ∧ InsAt w A c rows ∧ From lo A rows.length ∧ ∀ x ∈ rows, x.From lo := by
 obtain ⟨A, c, hv, hle, hcap, hnil, hc⟩ := ownsRow_form h.row (by omega)
 refine ⟨A, c, hv, ⟨⟨hle, hcap, hnil⟩, (hc.more (Nat.zero_le _) (Nat.le_refl _)).congr fun i hi j hj => ?_, fun r hr => ?_⟩, hc.from_, fun r hr => ?_⟩
 · rw [flat_getD InR.cells7 7 (fun _ => rfl) default rows i j hi hj]
   match j, hj with
   | 0, _ => rfl
   | 1, _ => rfl
   | 2, _ => rfl
   | 3, _ => rfl
   | 4, _ => rfl
   | 5, _ => rfl
   | 6, _ => rfl
 · obtain ⟨h0, h1, h2⟩ := h.inner r hr
   obtain ⟨h3, h4⟩ := own_hdr h1
   obtain ⟨h5, h6⟩ := own_hdr h2
   exact ⟨h0, h3, h4.more (Nat.zero_le _) (Nat.le_refl _), h5, h6.more (Nat.zero_le _) (Nat.le_refl _)⟩
 · obtain ⟨h0, h1, h2⟩ := h.inner r hr
   obtain ⟨h3, h4⟩ := own_hdr h1
   obtain ⟨h5, h6⟩ := own_hdr h2
   exact ⟨CellsAt.from_ h4, CellsAt.from_ h6⟩
theorem OwnBls.form {rows : List BlR} (h : OwnBls w lo v rows) : ∃ A c, v = .slice A rows.length c ∧ BlksAt w A c rows ∧ From lo A rows.length ∧ ∀ x ∈ rows, x.From lo := by
 obtain ⟨A, c, hv, hle, hcap, hnil, hc⟩ := ownsRow_form h.row (by omega)
 refine ⟨A, c, hv, ⟨⟨hle, hcap, hnil⟩, (hc.more (Nat.zero_le _) (Nat.le_refl _)).congr fun i hi j hj => ?_, fun r hr => ?_⟩, hc.from_, fun r hr => ?_⟩
 · rw [flat_getD BlR.cells5 5 (fun _ => rfl) default rows i j hi hj]
   match j, hj with
   | 0, _ => rfl
   | 1, _ => rfl
   | 2, _ => rfl
   | 3, _ => rfl
   | 4, _ => rfl
 · obtain ⟨h0, h1⟩ := h.inner r hr
   obtain ⟨A', c', e, h3, _, _⟩ := h1.form
   injection e with e1 e2 e3
   subst e1 e3
   exact ⟨h0, h3⟩
 · obtain ⟨h0, h1⟩ := h.inner r hr
   obtain ⟨A', c', e, _, h4, h5⟩ := h1.form
   injection e with e1 e2 e3
   subst e1 e3
   exact ⟨h4, h5⟩
theorem OwnFus.form {rows : List FuR} (h : OwnFus w lo v rows) : ∃ A c, v = .slice A rows.length c ∧ FusAt w A c rows ∧ From lo A rows.length ∧ ∀ x ∈ rows, x.From lo := by
 obtain ⟨A, c, hv, hle, hcap, hnil, hc⟩ := ownsRow_form h.row (by omega)
 refine ⟨A, c, hv, ⟨⟨hle, hcap, hnil⟩, (hc.more (Nat.zero_le _) (Nat.le_refl _)).congr fun i hi j hj => ?_, fun r hr => ?_⟩, hc.from_, fun r hr => ?_⟩
 · rw [flat_getD FuR.cells2 2 (fun _ => rfl) default rows i j hi hj]
   match j, hj with
   | 0, _ => rfl
   | 1, _ => rfl
 · obtain ⟨A', c', e, h3, _, _⟩ := OwnBls.form (h.inner r hr)
   injection e with e1 e2 e3
   subst e1 e3
   exact ⟨h3⟩
 · obtain ⟨A', c', e, _, h4, h5⟩ := OwnBls.form (h.inner r hr)
   injection e with e1 e2 e3
   subst e1 e3
   exact ⟨h4, h5⟩
end
structure OwnPr (w : World) (lo : Nat) (p : PrR) : Prop where
 types : OwnTys w lo (.slice p.ta p.types.length p.tc) p.types
 funs : OwnFus w lo (.slice p.fa p.funs.length p.fc) p.funs
theorem OwnPr.prog {w : World} {lo : Nat} {p : PrR} (h : OwnPr w lo p) : ProgIn w p ∧ p.From lo := by
 obtain ⟨A, c, e, h1, h2⟩ := h.types.form
 obtain ⟨A', c', e', h3, h4, h5⟩ := h.funs.form
 injection e with e1 e2 e3
 injection e' with e1' e2' e3'
 subst e1 e3 e1' e3'
 exact ⟨⟨⟨h1, h2.cells.more (Nat.zero_le _) (Nat.le_refl _), fun r hr => (h2.ok r hr).more (Nat.zero_le _) (Nat.le_refl _)⟩, h3⟩, h2.cells.from_, h4, h5⟩
end Go.Proofs.YtbffebcjimhapaaGreatDoor
namespace Go.Proofs.YtbffebcjimhapaaGreatDoor
open Go.ChangeShapes Go.WideShapes Go.ChangeAt Go.RowKit
end Go.Proofs.YtbffebcjimhapaaGreatDoor
