/-
  The reference's answers for types: PartOf, Part, Ahead, Offset; and whether two lists of numbers are the same. append of one element of several cells, just laid in a block of its own, onto a row of the call's own. Tables of types that the call owns. The reference's Same of types. The reference's Twin of types: a table of the call's own that tells the same. Instructions, blocks and functions that the call owns; what becomes of them when a block of another type is written. Words for loops (at a seat that has whole numbers' slices, too). Plain law of lines and words: to read on from a place gives what the reference's cuts give. No program in sight. Lists of texts: how they lie; append of one. Lists of lists of texts: how they lie; append of one list.
-/
import Derived.Test.YtbffebcjimhapaaDoorMg6
import Derived.Outline
import Derived.BigQuiet
import Derived.Deep.QuietTactic
import Derived.OwnWalk
import Derived.Test.YtbffebcjimhapaaDoorProg
import Derived.Lib.Hide
import Derived.WalkKit
import Derived.Laws.OwnMore
namespace Go.Proofs.YtbffebcjimhapaaDoor
set_option linter.unusedVariables false
set_option linter.unusedSimpArgs false
open Go.ChangeShapes Go.WideShapes Go.ChangeAt Go.RowKit
theorem part_ne_neg {t : List Ty} {k : Nat} (h : Good t k) {n : Int} : (partOfT (t.getD k default) n < 0 ↔ ¬ (0 ≤ n ∧ n < (partsT (t.getD k default)).length)) := by
  unfold partOfT
  by_cases hin : 0 ≤ n ∧ n < ((partsT (t.getD k default)).length : Int)
  · rw [if_pos hin]
    have := h.parts _ (mem_getD0 (l := partsT (t.getD k default)) (n := n.toNat) (by omega))
    exact ⟨fun h => by omega, fun h => absurd hin h⟩
  · rw [if_neg hin]
    exact ⟨fun _ => hin, fun _ => by omega⟩
section
variable {w : World} {A : Option Addr} {c : Nat} {rows : List TyR}
theorem TabIn.row (h : TabIn w A c rows) {i : Nat} (hi : i < rows.length) : (rows.getD i default).Ok w 0 w.heap.size := h.rows.ok _ (mem_getD (d := default) hi)
end
theorem take_eq_succ {α : Type} {d : α} {xs ys : List α} {k : Nat} (h : xs.take k = ys.take k) (h1 : k < xs.length) (h2 : k < ys.length) (e : xs.getD k d = ys.getD k d) : xs.take (k + 1) = ys.take (k + 1) := by
  rw [take_succ_getD (d := d) h1, take_succ_getD (d := d) h2, h, e]
theorem ne_of_getD {α : Type} {d : α} {xs ys : List α} {k : Nat} (e : xs.getD k d ≠ ys.getD k d) : xs ≠ ys := fun h => e (by rw [h])
theorem sameInts_any {w : World} {lo lo' B B' : Nat} {A A' : Option Addr} {c c' : Nat} {xs ys : List Int} (hh : Hdr A xs.length c) (hx : IntsAt w lo B A xs) (hh' : Hdr A' ys.length c') (hy : IntsAt w lo' B' A' ys) :
    Calls Tryd.prog 67 #[.slice A xs.length c, .slice A' ys.length c'] w fun e w' => e = .returned (.bool (decide (xs = ys))) ∧ Below w.heap.size w w' := by
  have hl := Nat.le_trans hh.fit hh.cap
  have hl' := Nat.le_trans hh'.fit hh'.cap
  unfold maxLen at hl hl'
  have HX := Lib.hid hx
  have HY := Lib.hid hy
  clear hx hy hh hh'
  by_cases hlen : xs.length = ys.length
  · have q : (xs.length : Int) = ys.length := by omega
    go_enter Tryd.func67, Tryd.ntmps67
    go_wp2_with fail
    go_loopw [5] (fun i wr => ∃ k : Nat, k ≤ xs.length ∧ i = .int .i64 k ∧ Hid (xs.take k = ys.take k) ∧ Below w.heap.size w wr) (fun i _ => xs.length - (intOf i).toNat)
    case atStart => exact ⟨0, Nat.zero_le _, rfl, Lib.hid rfl, Below.refl _ _⟩
    case round =>
      obtain ⟨k, hk, rfl, HT, hbel⟩ := hrel
      have HB := Lib.hid hbel
      clear hbel
      by_cases hlt : k < xs.length
      · obtain ⟨b, off, x, rfl, hcell, HE⟩ := (HX.out.cell hlt)
        obtain ⟨b', off', y, rfl, hcell', HE'⟩ := (HY.out.cell (k := k) (by omega))
        have d1 := (HB.out.cell (p := ⟨b, off + k, none⟩) (World.block_lt_of_cell? w _ hcell)).trans hcell
        have d2 := (HB.out.cell (p := ⟨b', off' + k, none⟩) (World.block_lt_of_cell? w _ hcell')).trans hcell'
        clear hcell hcell'
        by_cases hxy : x = y
        · subst hxy
          go_wp2_with fail
          go_quiet (fail)
          go_wp2_with fail
          go_roundw
          case rel => exact ⟨k + 1, by omega, by go_num, Lib.hid (take_eq_succ (d := 0) HT.out hlt (by omega) (by rw [HE.out, HE'.out])), belowDrewN HB.out _⟩
          case measure => simp [intOf]; omega
        · have hne : (x == y) = false := by simpa using hxy
          have HN : Hid (xs ≠ ys) := Lib.hid (ne_of_getD (d := 0) (k := k) (by rw [HE.out, HE'.out]; exact hxy))
          go_wp2_with fail
          go_quiet (fail)
          go_wp2_with fail
          go_ret
          exact ⟨ret_bool (by rw [decide_eq_false HN.out]), belowDrewN HB.out _⟩
      · go_wp2_with fail
        go_ret
        exact ⟨ret_bool (by rw [decide_eq_true]; have := HT.out; rwa [List.take_of_length_le (by omega), List.take_of_length_le (by omega)] at this), HB.out⟩
  · have q : ¬ (xs.length : Int) = ys.length := by omega
    have HN : Hid (xs ≠ ys) := Lib.hid (fun h => hlen (by rw [h]))
    clear hlen
    go_enter Tryd.func67, Tryd.ntmps67
    go_wp2_with fail
    go_ret
    exact ⟨ret_bool (by rw [decide_eq_false HN.out]), Below.refl _ _⟩
end Go.Proofs.YtbffebcjimhapaaDoor
namespace Go.Proofs.YtbffebcjimhapaaDoor
set_option linter.unusedVariables false
set_option linter.unusedSimpArgs false
open Go.RowKit

theorem wpList_appS {P : Program} {w : World} {ops : Array Oper} {rest : List Oper} {o : Oper} {a : Act} {Q : Exit → Act → World → Prop} (hgd : o.guard = none) (s x : Operand) (t e : TypeId)
    (ho : o.op = .call { callee := .builtin .append, args := #[s, x], argTypes := #[t, t] })
    (i : TypeInfo) (z : Value) (size bytes : Nat) (ht : P.underlying t = some (.slice e)) (hi : P.info? e = some i) (hz : i.zero = some z)
    (hsize : i.size = size) (hby : i.bytes = bytes) (hzs : z.cells.size = size) (hsz : 0 < size)
    (base : Nat) (v : Value) (n : Nat) (xs : List Value) (hs : a.eval s = v) (hown : w.ownsRow base e size v n xs)
    (news : Array Value) (hx : a.eval x = .slice (some ⟨w.heap.size, 0, none⟩) 1 1) (hl : news.size = size) (h1 : ∀ u ∈ news.toList, u.oneCell' = true)
    (hn : n ≤ 1000000) (hbb : bytes ≤ 1000) (hbase : base ≤ w.heap.size)
    (h : ∀ v' w', w'.ownsRow base e size v' (n + 1) (xs ++ news.toList) → (w.alloc (.cells news e)).grownBy w' v.ownBlock → wpList P ops Q rest (a.put o.dst v') w') :
    wpList P ops Q (o :: rest) a (w.alloc (.cells news e)) := by
  refine wpList_app hgd s x t ho base e i z size bytes ht hi hz hsize hby hzs hsz v n xs hs (World.ownsRow.alloc hown _) _ 1 1 news.toList hx (fun h => by cases h) (by rw [Array.length_toList, hl, Nat.one_mul]) ?_ h1 ?_ ?_ ?_ h
  · intro ad had j u hj
    injection had with had
    subst had
    rw [add_lit, Nat.zero_add, World.cell?, show (w.alloc (.cells news e)).heap = w.heap.push (.cells news e) from rfl, Array.getElem?_push_size]
    simpa using hj
  · unfold maxLen; omega
  · have : (n + 1) * bytes ≤ 1000001 * 1000 := Nat.mul_le_mul (by omega) hbb
    omega
  · rw [World.size_alloc]; omega
theorem ownsRow_keep {w w' : World} {lo : Nat} {e : TypeId} {size n : Nat} {v : Value} {xs : List Value} (h : w.ownsRow lo e size v n xs) (hb : Below w.heap.size w w') : w'.ownsRow lo e size v n xs := by
  refine ⟨h.1, ?_⟩
  rcases h.2 with h1 | ⟨g, cap, cur, h1, h2, h3, h4⟩
  · exact .inl h1
  · exact .inr ⟨g, cap, cur, h1, h2, (hb.block g (Array.getElem?_eq_some_iff.1 h3).1).trans h3, h4⟩
theorem ownsRow_more {w : World} {lo lo' : Nat} {e : TypeId} {size n : Nat} {v : Value} {xs : List Value} (h : w.ownsRow lo e size v n xs) (hl : lo' ≤ lo) : w.ownsRow lo' e size v n xs := by
  refine ⟨h.1, ?_⟩
  rcases h.2 with h1 | ⟨g, cap, cur, h1, h2, h3⟩
  · exact .inl h1
  · exact .inr ⟨g, cap, cur, h1, Nat.le_trans hl h2, h3⟩
/-- A row of the call's own, read. -/
theorem ownsRow_form {w : World} {lo : Nat} {e : TypeId} {size n : Nat} {v : Value} {xs : List Value} (h : w.ownsRow lo e size v n xs) (hsz : 0 < size) :
    ∃ A c, v = .slice A n c ∧ n ≤ c ∧ c ≤ maxLen ∧ (A = none → n = 0 ∧ c = 0) ∧ CellsAt w lo w.heap.size A size n fun i j => xs.getD (i * size + j) undef := by
  rcases h.2 with ⟨rfl, rfl⟩ | ⟨g, cap, cur, rfl, hb, hh, hle, hm, hs, htk⟩
  · exact ⟨none, 0, rfl, Nat.le_refl _, by unfold maxLen; omega, fun _ => ⟨rfl, rfl⟩, CellsAt.empty⟩
  · refine ⟨_, cap, rfl, hle, hm, (fun e => by cases e), fun hn => ⟨g, 0, rfl, hb, (Array.getElem?_eq_some_iff.1 hh).1, fun i hi j hj => ?_⟩⟩
    have hij : i * size + j < n * size := by
      have := Nat.mul_le_mul_right size (show i + 1 ≤ n from hi)
      rw [Nat.add_mul, Nat.one_mul] at this
      omega
    have hlen := h.1
    rw [Nat.zero_add, cell_of_row w g (i * size + j) cur e (0, 0) hh, ← Array.getElem?_toList, ← (show (cur.toList.take (n * size))[i * size + j]? = cur.toList[i * size + j]? from by rw [List.getElem?_take, if_pos hij]), htk]
    show _ = some (xs.getD (i * size + j) undef)
    rw [List.getD_eq_getElem?_getD, List.getElem?_eq_getElem (by omega)]
    rfl
end Go.Proofs.YtbffebcjimhapaaDoor
namespace Go.Proofs.YtbffebcjimhapaaDoor
set_option linter.unusedVariables false
set_option linter.unusedSimpArgs false
open Go.ChangeShapes Go.WideShapes Go.ChangeAt Go.RowKit

def TyR.cells4 (r : TyR) : List Value := [.int .u8 r.kind, .int .i64 r.elem, .int .i64 r.many, .slice r.pa r.parts.length r.pc]
structure OwnTys (w : World) (lo : Nat) (v : Value) (rows : List TyR) : Prop where
  row : w.ownsRow lo 41 4 v rows.length (rows.flatMap TyR.cells4)
  inner : ∀ r ∈ rows, OwnInts w lo (.slice r.pa r.parts.length r.pc) r.parts ∧ r.kind ≤ 255
theorem flat_getD {α : Type} (f : α → List Value) (size : Nat) (hf : ∀ x, (f x).length = size) (d : α) : ∀ (l : List α) (i j : Nat), i < l.length → j < size → (l.flatMap f).getD (i * size + j) undef = (f (l.getD i d)).getD j undef
  | x :: l, 0, j, _, hj => by
    rw [List.flatMap_cons, Nat.zero_mul, Nat.zero_add, List.getD_eq_getElem?_getD, List.getElem?_append_left (by rw [hf]; exact hj), ← List.getD_eq_getElem?_getD]
    rfl
  | x :: l, i + 1, j, hi, hj => by
    rw [List.flatMap_cons, List.getD_eq_getElem?_getD, List.getElem?_append_right (by rw [hf, Nat.add_mul]; omega), hf, show (i + 1) * size + j - size = i * size + j by rw [Nat.add_mul]; omega, ← List.getD_eq_getElem?_getD, flat_getD f size hf d l i j (by simpa using hi) hj]
    rfl
theorem own_hdr {w : World} {lo : Nat} {A : Option Addr} {c : Nat} {xs : List Int} (h : OwnInts w lo (.slice A xs.length c) xs) : Hdr A xs.length c ∧ IntsAt w lo w.heap.size A xs := by
  obtain ⟨A', c', e, hnil, hints, hle, hcap⟩ := h.form
  injection e with e1 e2 e3
  subst e1 e3
  exact ⟨⟨hle, hcap, hnil⟩, hints⟩
section
variable {w w' : World} {lo lo' : Nat} {v : Value} {rows : List TyR}
theorem OwnTys.nil (w : World) (lo : Nat) : OwnTys w lo (.slice none 0 0) [] := ⟨World.ownsRow_nil _ _ _ _, fun r hr => by cases hr⟩
theorem OwnTys.keep (h : OwnTys w lo v rows) (hb : Below w.heap.size w w') : OwnTys w' lo v rows := ⟨ownsRow_keep h.row hb, fun r hr => ⟨(h.inner r hr).1.keep hb, (h.inner r hr).2⟩⟩
theorem OwnTys.more (h : OwnTys w lo v rows) (hl : lo' ≤ lo) : OwnTys w lo' v rows := ⟨ownsRow_more h.row hl, fun r hr => ⟨(h.inner r hr).1.more hl, (h.inner r hr).2⟩⟩
theorem OwnTys.form (h : OwnTys w lo v rows) : ∃ A c, v = .slice A rows.length c ∧ Hdr A rows.length c ∧ TypsAt w lo w.heap.size A rows := by
  obtain ⟨A, c, hv, hle, hcap, hnil, hc⟩ := ownsRow_form h.row (by omega)
  refine ⟨A, c, hv, ⟨hle, hcap, hnil⟩, ⟨hc.congr fun i hi j hj => ?_, fun r hr => ?_⟩⟩
  · rw [flat_getD TyR.cells4 4 (fun _ => rfl) default rows i j hi hj]
    match j, hj with
    | 0, _ => rfl
    | 1, _ => rfl
    | 2, _ => rfl
    | 3, _ => rfl
  · obtain ⟨h1, h2⟩ := h.inner r hr
    obtain ⟨h3, h4⟩ := own_hdr h1
    exact ⟨h2, h3, h4⟩
/-- One row more. -/
theorem OwnTys.push {r : TyR} (h : OwnTys w lo v rows) {v' : Value} (hr : w'.ownsRow lo 41 4 v' (rows.length + 1) (rows.flatMap TyR.cells4 ++ r.cells4))
    (hg : w.grownBy w' v.ownBlock) (hne : ∀ r ∈ rows, (Value.slice r.pa r.parts.length r.pc).ownBlock = none ∨ (Value.slice r.pa r.parts.length r.pc).ownBlock ≠ v.ownBlock) (hi : OwnInts w lo (.slice r.pa r.parts.length r.pc) r.parts) (hne' : (Value.slice r.pa r.parts.length r.pc).ownBlock = none ∨ (Value.slice r.pa r.parts.length r.pc).ownBlock ≠ v.ownBlock) (hk : r.kind ≤ 255) : OwnTys w' lo v' (rows ++ [r]) := by
  refine ⟨by rw [List.length_append, List.flatMap_append]; simpa using hr, fun q hq => ?_⟩
  rcases List.mem_append.1 hq with hq | hq
  · obtain ⟨h1, h2⟩ := h.inner q hq
    exact ⟨World.ownsRow.kept h1 hg (hne q hq), h2⟩
  · obtain rfl := List.mem_singleton.1 hq
    exact ⟨World.ownsRow.kept hi hg hne', hk⟩
end
/-- Rows of two types are two rows. -/
theorem rows_ne {w : World} {lo lo' : Nat} {e e' : TypeId} {size size' n n' : Nat} {v v' : Value} {xs xs' : List Value} (h : w.ownsRow lo e size v n xs) (h' : w.ownsRow lo' e' size' v' n' xs') (hne : e ≠ e') : v.ownBlock = none ∨ v.ownBlock ≠ v'.ownBlock := by
  rcases h.2 with ⟨rfl, _⟩ | ⟨g, cap, cur, rfl, hb, hh, _⟩
  · exact .inl rfl
  · right
    rcases h'.2 with ⟨rfl, _⟩ | ⟨g', cap', cur', rfl, hb', hh', _⟩
    · simp [Value.ownBlock]
    · intro he
      have : g = g' := by simpa [Value.ownBlock] using he
      subst this
      rw [hh] at hh'
      injection hh' with hh'
      injection hh' with _ ht _
      exact hne ht
end Go.Proofs.YtbffebcjimhapaaDoor
namespace Go.Proofs.YtbffebcjimhapaaDoor
set_option linter.unusedVariables false
set_option linter.unusedSimpArgs false
open Go.ChangeShapes Go.WideShapes Go.ChangeAt Go.RowKit

theorem tbl_take_succ {xs ys : List TyR} {k : Nat} (h : (tbl xs).take k = (tbl ys).take k) (h1 : k < xs.length) (h2 : k < ys.length) (e : (xs.getD k default).data = (ys.getD k default).data) : (tbl xs).take (k + 1) = (tbl ys).take (k + 1) :=
  take_eq_succ (d := default) h (by rw [tbl_len]; exact h1) (by rw [tbl_len]; exact h2) (by rw [tbl_at h1, tbl_at h2, e])
theorem tbl_ne {xs ys : List TyR} {k : Nat} (h1 : k < xs.length) (h2 : k < ys.length) (e : (xs.getD k default).data ≠ (ys.getD k default).data) : tbl xs ≠ tbl ys :=
  ne_of_getD (d := default) (k := k) (by rw [tbl_at h1, tbl_at h2]; exact e)
set_option maxRecDepth 100000 in
set_option maxHeartbeats 1600000 in
theorem rsame_any {w : World} {A A' : Option Addr} {c c' : Nat} {xs ys : List TyR} (h : TabIn w A c xs) (h' : TabIn w A' c' ys) :
    Calls Tryd.prog 26 #[.slice A xs.length c, .slice A' ys.length c'] w fun e w' => e = .returned (.bool (decide (tbl xs = tbl ys))) ∧ Below w.heap.size w w' := by
  have hl := h.len
  have hl' := h'.len
  have HX := Lib.hid h
  have HY := Lib.hid h'
  clear h h'
  by_cases hlen : xs.length = ys.length
  · have q : (xs.length : Int) = ys.length := by omega
    go_enter Tryd.func26, Tryd.ntmps26
    go_wp2_with fail
    go_loopw [5] (fun i wr => ∃ k : Nat, k ≤ xs.length ∧ i = .int .i64 k ∧ Hid ((tbl xs).take k = (tbl ys).take k) ∧ Below w.heap.size w wr) (fun i _ => xs.length - (intOf i).toNat)
    case atStart => exact ⟨0, Nat.zero_le _, rfl, Lib.hid rfl, Below.refl _ _⟩
    case round =>
      obtain ⟨k, hk, rfl, HT, hbel⟩ := hrel
      by_cases hlt : k < xs.length
      · have hlt' : k < ys.length := by omega
        have ⟨b, off, hA, hbl, c0, c1, c2, c3⟩ := (HX.out.rows.elem hlt).at_
        have ⟨b', off', hA', hbl', c0', c1', c2', c3'⟩ := (HY.out.rows.elem hlt').at_
        subst hA hA'
        have d0 := (hbel.cell (p := ⟨b, off + k * 4, none⟩) hbl).trans c0
        have d1 := (hbel.cell (p := ⟨b, off + k * 4 + 1, none⟩) hbl).trans c1
        have d2 := (hbel.cell (p := ⟨b, off + k * 4 + 2, none⟩) hbl).trans c2
        have d3 := (hbel.cell (p := ⟨b, off + k * 4 + 3, none⟩) hbl).trans c3
        have d0' := (hbel.cell (p := ⟨b', off' + k * 4, none⟩) hbl').trans c0'
        have d1' := (hbel.cell (p := ⟨b', off' + k * 4 + 1, none⟩) hbl').trans c1'
        have d2' := (hbel.cell (p := ⟨b', off' + k * 4 + 2, none⟩) hbl').trans c2'
        have d3' := (hbel.cell (p := ⟨b', off' + k * 4 + 3, none⟩) hbl').trans c3'
        have hr := ((HX.out.row hlt).keep hbel).more (Nat.le_refl _) hbel.size
        have hr' := ((HY.out.row hlt').keep hbel).more (Nat.le_refl _) hbel.size
        have HB := Lib.hid hbel
        clear hbel c0 c1 c2 c3 c0' c1' c2' c3'
        have HNE : Hid ((xs.getD k default).data ≠ (ys.getD k default).data → tbl xs ≠ tbl ys) := Lib.hid (tbl_ne hlt hlt')
        have HEQ : Hid ((xs.getD k default).data = (ys.getD k default).data → (tbl xs).take (k + 1) = (tbl ys).take (k + 1)) := Lib.hid (tbl_take_succ HT.out hlt hlt')
        generalize xs.getD k default = r at d0 d1 d2 d3 hr HNE HEQ
        generalize ys.getD k default = r' at d0' d1' d2' d3' hr' HNE HEQ
        obtain ⟨κ, el, ma, pa, pc, ps⟩ := r
        obtain ⟨κ', el', ma', pa', pc', ps'⟩ := r'
        simp only at d0 d1 d2 d3 d0' d1' d2' d3'
        have hlp := Nat.le_trans hr.hdr.fit hr.hdr.cap
        have hlp' := Nat.le_trans hr'.hdr.fit hr'.hdr.cap
        unfold maxLen at hlp hlp'
        simp only at hlp hlp'
        have HR := Lib.hid hr
        have HR' := Lib.hid hr'
        clear hr hr'
        by_cases e0 : κ = κ'
        · subst e0
          by_cases e1 : el = el'
          · subst e1
            by_cases e2 : ma = ma'
            · subst e2
              by_cases e3 : ps.length = ps'.length
              · have qq : (ps.length : Int) = ps'.length := by omega
                go_wp2_with fail
                go_quiet (fail)
                go_wp2_with fail
                go_loopw [6] (fun i wo => ∃ j : Nat, j ≤ ps.length ∧ i = .int .i64 j ∧ Hid (ps.take j = ps'.take j) ∧ Below wr.heap.size wr wo) (fun i _ => ps.length - (intOf i).toNat)
                case atStart => exact ⟨0, Nat.zero_le _, rfl, Lib.hid rfl, belowDrewN (Below.refl _ _) _⟩
                case round =>
                  obtain ⟨j, hj, rfl, HP, hbi⟩ := hrel
                  have f3 := (hbi.cell (p := ⟨b, off + k * 4 + 3, none⟩) (World.block_lt_of_cell? _ _ d3)).trans d3
                  have f3' := (hbi.cell (p := ⟨b', off' + k * 4 + 3, none⟩) (World.block_lt_of_cell? _ _ d3')).trans d3'
                  have HI := Lib.hid hbi
                  by_cases hj2 : j < ps.length
                  · obtain ⟨bb, oo, x, hpa, hcell, HE⟩ := ((HR.out.keep hbi).ints.cell hj2)
                    obtain ⟨bb', oo', y, hpa', hcell', HE'⟩ := ((HR'.out.keep hbi).ints.cell (k := j) (by show j < ps'.length; omega))
                    simp only at hpa hpa' HE HE'
                    subst hpa hpa'
                    clear hbi
                    by_cases hxy : x = y
                    · subst hxy
                      go_wp2_with fail
                      go_quiet (fail)
                      go_wp2_with fail
                      go_roundw
                      case rel => exact ⟨j + 1, by omega, by go_num, Lib.hid (take_eq_succ (d := 0) HP.out hj2 (by omega) (by rw [HE.out, HE'.out])), belowDrewN HI.out _⟩
                      case measure => simp [intOf]; omega
                    · have hne : (x == y) = false := by simpa using hxy
                      have HN : Hid (tbl xs ≠ tbl ys) := Lib.hid (HNE.out (fun h => by
                        injection h with _ _ _ h
                        exact ne_of_getD (d := 0) (k := j) (by rw [HE.out, HE'.out]; exact hxy) h))
                      go_wp2_with fail
                      go_quiet (fail)
                      go_wp2_with fail
                      go_ret
                      exact ⟨ret_bool (by rw [decide_eq_false HN.out]), belowDrewN (HB.out.trans (HI.out.mono HB.out.size)) _⟩
                  · clear hbi
                    have HPS : Hid (ps = ps') := Lib.hid (by have := HP.out; rwa [List.take_of_length_le (by omega), List.take_of_length_le (by omega)] at this)
                    go_wp2_with fail
                    go_roundw
                    case rel => exact ⟨k + 1, by omega, by go_num, Lib.hid (HEQ.out (by show (⟨κ, el, ma, ps⟩ : Ty) = ⟨κ, el, ma, ps'⟩; rw [HPS.out])), HB.out.trans (HI.out.mono HB.out.size)⟩
                    case measure => simp [intOf]; omega
              · have qq : ((ps.length : Int) == ps'.length) = false := by simp; omega
                have qq2 : ((ps.length : Int) != ps'.length) = true := by simp; omega
                have E3 := Lib.hid e3
                clear e3
                have HN := Lib.hid (HNE.out (fun h => E3.out (by injection h with _ _ _ h; exact congrArg List.length h)))
                go_wp2_with fail
                go_quiet (fail)
                go_wp2_with fail
                go_ret
                exact ⟨ret_bool (by rw [decide_eq_false HN.out]), belowDrewN HB.out _⟩
            · have qq : (ma == ma') = false := by simpa using e2
              have qq2 : (ma != ma') = true := by simpa using e2
              have E2 := Lib.hid e2
              clear e2
              have HN := Lib.hid (HNE.out (fun h => E2.out (by injection h with _ _ h _)))
              go_wp2_with fail
              go_quiet (fail)
              go_wp2_with fail
              go_ret
              exact ⟨ret_bool (by rw [decide_eq_false HN.out]), belowDrewN HB.out _⟩
          · have qq : (el == el') = false := by simpa using e1
            have qq2 : (el != el') = true := by simpa using e1
            have E1 := Lib.hid e1
            clear e1
            have HN := Lib.hid (HNE.out (fun h => E1.out (by injection h with _ h _ _)))
            go_wp2_with fail
            go_quiet (fail)
            go_wp2_with fail
            go_ret
            exact ⟨ret_bool (by rw [decide_eq_false HN.out]), belowDrewN HB.out _⟩
        · have qq : ((κ : Int) == κ') = false := by simp; omega
          have qq2 : ((κ : Int) != κ') = true := by simp; omega
          have HN := Lib.hid (HNE.out (fun h => e0 (by injection h with h _ _ _)))
          go_wp2_with fail
          go_quiet (fail)
          go_wp2_with fail
          go_ret
          exact ⟨ret_bool (by rw [decide_eq_false HN.out]), belowDrewN HB.out _⟩
      · have HB := Lib.hid hbel
        clear hbel
        go_wp2_with fail
        go_ret
        exact ⟨ret_bool (by rw [decide_eq_true]; have := HT.out; rwa [List.take_of_length_le (by rw [tbl_len]; omega), List.take_of_length_le (by rw [tbl_len]; omega)] at this), HB.out⟩
  · have q : ¬ (xs.length : Int) = ys.length := by omega
    have HN : Hid (tbl xs ≠ tbl ys) := Lib.hid (fun h => hlen (by rw [← tbl_len xs, h, tbl_len]))
    clear hlen
    go_enter Tryd.func26, Tryd.ntmps26
    go_wp2_with fail
    go_ret
    exact ⟨ret_bool (by rw [decide_eq_false HN.out]), Below.refl _ _⟩
end Go.Proofs.YtbffebcjimhapaaDoor
namespace Go.Proofs.YtbffebcjimhapaaDoor
set_option linter.unusedVariables false
set_option linter.unusedSimpArgs false
open Go.ChangeShapes Go.WideShapes Go.ChangeAt Go.RowKit

theorem typeInfo : (Tryd.prog.info? 41).map (fun i => (i.zero, i.size, i.bytes)) = some (some (.agg #[.int .u8 0, .int .i64 0, .int .i64 0, .slice none 0 0]), 4, 48) := by kernel_rfl
/-- append of a type that has just been laid in a block of its own. -/
theorem wpList_appTy {w : World} {ops : Array Oper} {rest : List Oper} {o : Oper} {a : Act} {Q : Exit → Act → World → Prop} (hgd : o.guard = none) (s x : Operand)
    (ho : o.op = .call { callee := .builtin .append, args := #[s, x], argTypes := #[22, 22] })
    (lo : Nat) (v : Value) (rows : List TyR) (r : TyR) (hs : a.eval s = v) (hown : OwnTys w lo v rows) (hx : a.eval x = .slice (some ⟨w.heap.size, 0, none⟩) 1 1) (hr : OwnInts w lo (.slice r.pa r.parts.length r.pc) r.parts) (hk : r.kind ≤ 255)
    (hlen : rows.length ≤ 1000000) (hbase : lo ≤ w.heap.size)
    (h : ∀ v' w', OwnTys w' lo v' (rows ++ [r]) → (w.alloc (.cells #[.int .u8 r.kind, .int .i64 r.elem, .int .i64 r.many, .slice r.pa r.parts.length r.pc] 41)).grownBy w' v.ownBlock → wpList Tryd.prog ops Q rest (a.put o.dst v') w') : wpList Tryd.prog ops Q (o :: rest) a (w.alloc (.cells #[.int .u8 r.kind, .int .i64 r.elem, .int .i64 r.many, .slice r.pa r.parts.length r.pc] 41)) := by
  obtain ⟨i0, hi, hz0, hz1, hz2⟩ := info_parts typeInfo
  refine wpList_appS hgd s x 22 41 ho i0 _ 4 48 Tryd.underlying22 hi hz0 hz1 hz2 rfl (by decide) lo v rows.length _ hs hown.row _ hx rfl ?_ hlen (by decide) hbase ?_
  · intro u hu
    simp at hu
    rcases hu with rfl | rfl | rfl | rfl <;> rfl
  · intro v' w' h1 h2
    have hb0 : Below w.heap.size w (w.alloc (.cells #[.int .u8 r.kind, .int .i64 r.elem, .int .i64 r.many, .slice r.pa r.parts.length r.pc] 41)) := (Below.refl _ _).alloc (Nat.le_refl _) _
    refine h v' w' (OwnTys.push (hown.keep hb0) h1 h2 (fun q hq => ?_) (hr.keep hb0) ?_ hk) h2
    · exact rows_ne ((hown.keep hb0).inner q hq).1 (hown.keep hb0).row (by decide)
    · exact rows_ne (hr.keep hb0) (hown.keep hb0).row (by decide)

theorem OwnInts.zero (w : World) (lo g : Nat) (h : lo ≤ w.heap.size) (hg : g = w.heap.size) : OwnInts (w.alloc (.cells #[] 3)) lo (.slice (some ⟨g, 0, none⟩) 0 0) [] := by
  subst hg
  refine ⟨rfl, .inr ⟨w.heap.size, 0, #[], rfl, h, ?_, Nat.le_refl 0, by unfold maxLen; omega, rfl, rfl⟩⟩
  show (w.heap.push _)[w.heap.size]? = _
  simp

theorem size_set (w : World) (a : Addr) (v : Value) : (w.setCell a v).heap.size = w.heap.size := by simp [World.setCell]
theorem OwnInts.far {w : World} {lo g j : Nat} {t : TypeId} {cs : Array Value} {v u : Value} {xs : List Int} (h : OwnInts w lo v xs) (hg : Blk w g t cs) (hne : 3 ≠ t) : OwnInts (w.setCell ⟨g, j, none⟩ u) lo v xs := by
  have hn := h.ne hg hne
  unfold OwnInts at h ⊢
  refine ⟨h.1, ?_⟩
  rcases h.2 with h1 | ⟨g', cap, cur, rfl, h2, h3, h4⟩
  · exact .inl h1
  · refine .inr ⟨g', cap, cur, rfl, h2, (Below.heap_setCell w _ u g' ?_).trans h3, h4⟩
    intro e
    apply hn
    show some g' = some g
    rw [e]
/-- A table of its own that tells the same. -/
def SomeTwin (t : List Ty) (w : World) (e : Ending) (w' : World) : Prop := ∃ v rows, e = .returned v ∧ OwnTys w' w.heap.size v rows ∧ tbl rows = t ∧ Below w.heap.size w w'
end Go.Proofs.YtbffebcjimhapaaDoor
namespace Go.Proofs.YtbffebcjimhapaaDoor
set_option linter.unusedVariables false
set_option linter.unusedSimpArgs false
open Go.ChangeShapes Go.WideShapes Go.ChangeAt Go.RowKit

/-- Blocks of other types than t are as they were. -/
structure Spare (t : TypeId) (w w' : World) : Prop where
  size : w.heap.size ≤ w'.heap.size
  block : ∀ (k : Nat) (cs : Array Value) (e : TypeId) (fr : Nat × Nat), w.heap[k]? = some (Obj.cells cs e fr) → e ≠ t → w'.heap[k]? = some (Obj.cells cs e fr)
section
variable {t e : TypeId} {w w' w2 : World} {lo lo' size n : Nat} {v : Value} {xs : List Value}
theorem Spare.of (h : Below w.heap.size w w') : Spare t w w' := ⟨h.size, fun k cs e fr hk _ => (h.block k (Array.getElem?_eq_some_iff.1 hk).1).trans hk⟩
theorem Spare.trans (h : Spare t w w') (h' : Spare t w' w2) : Spare t w w2 := ⟨Nat.le_trans h.size h'.size, fun k cs e fr hk hne => h'.block k cs e fr (h.block k cs e fr hk hne) hne⟩
theorem Spare.set {g j : Nat} {cs : Array Value} (h : Blk w g t cs) (u : Value) : Spare t w (w.setCell ⟨g, j, none⟩ u) :=
  ⟨by rw [size_set]; exact Nat.le_refl _, fun k cs' e fr hk hne => (Below.heap_setCell w _ u k (fun hkg => by
    have h' : w.heap[g]? = some (.cells cs t (0, 0)) := h
    have hkg' : k = g := hkg
    rw [hkg', h'] at hk
    injection hk with hk
    injection hk with _ ht _
    exact hne ht.symm)).trans hk⟩
theorem Spare.grown (h : w.ownsRow lo t size v n xs) (hg : w.grownBy w' v.ownBlock) : Spare t w w' :=
  ⟨hg.size, fun k cs e fr hk hne => (hg.block k (Array.getElem?_eq_some_iff.1 hk).1 (fun hkv => by
    rcases h.2 with ⟨rfl, _⟩ | ⟨g', cap, cur, rfl, _, hh, _⟩
    · simp [Value.ownBlock] at hkv
    · have hkg : g' = k := by simpa [Value.ownBlock] using hkv.symm
      rw [← hkg, hh] at hk
      injection hk with hk
      injection hk with _ ht _
      exact hne ht.symm)).trans hk⟩
theorem ownsRow_spare (h : w.ownsRow lo e size v n xs) (hs : Spare t w w') (hne : e ≠ t) : w'.ownsRow lo e size v n xs := by
  refine ⟨h.1, ?_⟩
  rcases h.2 with h1 | ⟨g, cap, cur, h1, h2, h3, h4⟩
  · exact .inl h1
  · exact .inr ⟨g, cap, cur, h1, h2, hs.block _ _ _ _ h3 hne, h4⟩
theorem OwnInts.spare {xs : List Int} (h : OwnInts w lo v xs) (hs : Spare t w w') (hne : 3 ≠ t) : OwnInts w' lo v xs := ownsRow_spare h hs hne
theorem OwnTys.spare {rows : List TyR} (h : OwnTys w lo v rows) (hs : Spare t w w') (h1 : 3 ≠ t) (h2 : 41 ≠ t) : OwnTys w' lo v rows := ⟨ownsRow_spare h.row hs h2, fun r hr => ⟨(h.inner r hr).1.spare hs h1, (h.inner r hr).2⟩⟩
end
def InR.cells7 (r : InR) : List Value := [.int .u8 r.op, .int .i64 r.ty, .int .i64 r.a, .int .i64 r.b, .int .i64 r.n, .slice r.aa r.args.length r.ac, .slice r.fa r.from_.length r.fc]
structure InR.Own (w : World) (lo : Nat) (r : InR) : Prop where
  op : r.op ≤ 255
  args : OwnInts w lo (.slice r.aa r.args.length r.ac) r.args
  from_ : OwnInts w lo (.slice r.fa r.from_.length r.fc) r.from_
structure OwnIns (w : World) (lo : Nat) (v : Value) (rows : List InR) : Prop where
  row : w.ownsRow lo 39 7 v rows.length (rows.flatMap InR.cells7)
  inner : ∀ r ∈ rows, r.Own w lo
def BlR.cells5 (r : BlR) : List Value := [.slice r.ia r.ins.length r.ic, .int .u8 r.kind, .int .i64 r.a, .int .i64 r.to, .int .i64 r.els]
structure BlR.Own (w : World) (lo : Nat) (r : BlR) : Prop where
  kind : r.kind ≤ 255
  ins : OwnIns w lo (.slice r.ia r.ins.length r.ic) r.ins
structure OwnBls (w : World) (lo : Nat) (v : Value) (rows : List BlR) : Prop where
  row : w.ownsRow lo 36 5 v rows.length (rows.flatMap BlR.cells5)
  inner : ∀ r ∈ rows, r.Own w lo
def FuR.cells2 (r : FuR) : List Value := [.int .i64 r.sig, .slice r.ba r.blocks.length r.bc]
def FuR.Own (w : World) (lo : Nat) (r : FuR) : Prop := OwnBls w lo (.slice r.ba r.blocks.length r.bc) r.blocks
structure OwnFus (w : World) (lo : Nat) (v : Value) (rows : List FuR) : Prop where
  row : w.ownsRow lo 31 2 v rows.length (rows.flatMap FuR.cells2)
  inner : ∀ r ∈ rows, r.Own w lo
/-- A slice's memory, if it has any, is from a block on. -/
def From (lo : Nat) (A : Option Addr) (n : Nat) : Prop := 0 < n → ∃ b off, A = some ⟨b, off, none⟩ ∧ lo ≤ b
theorem CellsAt.from_ {w : World} {lo B size n : Nat} {A : Option Addr} {f : Nat → Nat → Value} (h : CellsAt w lo B A size n f) : From lo A n := fun hn => by
  obtain ⟨b, off, rfl, h1, _, _⟩ := h hn
  exact ⟨b, off, rfl, h1⟩
/-- All memory of an instruction, of a block, of a function, of a program is from a block on. -/
structure InR.From (lo : Nat) (r : InR) : Prop where
  args : Go.Proofs.YtbffebcjimhapaaDoor.From lo r.aa r.args.length
  from_ : Go.Proofs.YtbffebcjimhapaaDoor.From lo r.fa r.from_.length
structure BlR.From (lo : Nat) (r : BlR) : Prop where
  head : Go.Proofs.YtbffebcjimhapaaDoor.From lo r.ia r.ins.length
  ins : ∀ x ∈ r.ins, x.From lo
structure FuR.From (lo : Nat) (r : FuR) : Prop where
  head : Go.Proofs.YtbffebcjimhapaaDoor.From lo r.ba r.blocks.length
  blocks : ∀ b ∈ r.blocks, b.From lo
structure PrR.From (lo : Nat) (r : PrR) : Prop where
  types : Go.Proofs.YtbffebcjimhapaaDoor.From lo r.ta r.types.length
  funs : Go.Proofs.YtbffebcjimhapaaDoor.From lo r.fa r.funs.length
  inner : ∀ f ∈ r.funs, f.From lo
section
variable {t : TypeId} {w w' : World} {lo lo' : Nat} {v : Value}
theorem InR.Own.spare {r : InR} (h : r.Own w lo) (hs : Spare t w w') (h1 : 3 ≠ t) : r.Own w' lo := ⟨h.op, h.args.spare hs h1, h.from_.spare hs h1⟩
theorem OwnIns.spare {rows : List InR} (h : OwnIns w lo v rows) (hs : Spare t w w') (h1 : 3 ≠ t) (h2 : 39 ≠ t) : OwnIns w' lo v rows := ⟨ownsRow_spare h.row hs h2, fun r hr => (h.inner r hr).spare hs h1⟩
theorem BlR.Own.spare {r : BlR} (h : r.Own w lo) (hs : Spare t w w') (h1 : 3 ≠ t) (h2 : 39 ≠ t) : r.Own w' lo := ⟨h.kind, h.ins.spare hs h1 h2⟩
theorem OwnBls.spare {rows : List BlR} (h : OwnBls w lo v rows) (hs : Spare t w w') (h1 : 3 ≠ t) (h2 : 39 ≠ t) (h3 : 36 ≠ t) : OwnBls w' lo v rows := ⟨ownsRow_spare h.row hs h3, fun r hr => (h.inner r hr).spare hs h1 h2⟩
theorem OwnFus.spare {rows : List FuR} (h : OwnFus w lo v rows) (hs : Spare t w w') (h1 : 3 ≠ t) (h2 : 39 ≠ t) (h3 : 36 ≠ t) (h4 : 31 ≠ t) : OwnFus w' lo v rows := ⟨ownsRow_spare h.row hs h4, fun r hr => OwnBls.spare (h.inner r hr) hs h1 h2 h3⟩
theorem InR.Own.keep {r : InR} (h : r.Own w lo) (hb : Below w.heap.size w w') : r.Own w' lo := ⟨h.op, h.args.keep hb, h.from_.keep hb⟩
theorem OwnIns.keep {rows : List InR} (h : OwnIns w lo v rows) (hb : Below w.heap.size w w') : OwnIns w' lo v rows := ⟨ownsRow_keep h.row hb, fun r hr => (h.inner r hr).keep hb⟩
theorem OwnBls.keep {rows : List BlR} (h : OwnBls w lo v rows) (hb : Below w.heap.size w w') : OwnBls w' lo v rows := ⟨ownsRow_keep h.row hb, fun r hr => ⟨(h.inner r hr).kind, (h.inner r hr).ins.keep hb⟩⟩
theorem OwnFus.keep {rows : List FuR} (h : OwnFus w lo v rows) (hb : Below w.heap.size w w') : OwnFus w' lo v rows := ⟨ownsRow_keep h.row hb, fun r hr => OwnBls.keep (h.inner r hr) hb⟩
theorem InR.Own.more {r : InR} (h : r.Own w lo) (hl : lo' ≤ lo) : r.Own w lo' := ⟨h.op, h.args.more hl, h.from_.more hl⟩
theorem OwnIns.more {rows : List InR} (h : OwnIns w lo v rows) (hl : lo' ≤ lo) : OwnIns w lo' v rows := ⟨ownsRow_more h.row hl, fun r hr => (h.inner r hr).more hl⟩
theorem OwnBls.more {rows : List BlR} (h : OwnBls w lo v rows) (hl : lo' ≤ lo) : OwnBls w lo' v rows := ⟨ownsRow_more h.row hl, fun r hr => ⟨(h.inner r hr).kind, (h.inner r hr).ins.more hl⟩⟩
theorem OwnFus.more {rows : List FuR} (h : OwnFus w lo v rows) (hl : lo' ≤ lo) : OwnFus w lo' v rows := ⟨ownsRow_more h.row hl, fun r hr => OwnBls.more (h.inner r hr) hl⟩
theorem OwnIns.nil (w : World) (lo : Nat) : OwnIns w lo (.slice none 0 0) [] := ⟨World.ownsRow_nil _ _ _ _, fun r hr => by cases hr⟩
theorem OwnBls.nil (w : World) (lo : Nat) : OwnBls w lo (.slice none 0 0) [] := ⟨World.ownsRow_nil _ _ _ _, fun r hr => by cases hr⟩
theorem OwnFus.nil (w : World) (lo : Nat) : OwnFus w lo (.slice none 0 0) [] := ⟨World.ownsRow_nil _ _ _ _, fun r hr => by cases hr⟩
theorem OwnIns.push {rows : List InR} {r : InR} (h : OwnIns w lo v rows) {v' : Value} (hr : w'.ownsRow lo 39 7 v' (rows.length + 1) (rows.flatMap InR.cells7 ++ r.cells7)) (hg : w.grownBy w' v.ownBlock) (hi : r.Own w lo) : OwnIns w' lo v' (rows ++ [r]) := by
  have hs := Spare.grown h.row hg
  refine ⟨by rw [List.length_append, List.flatMap_append]; simpa using hr, fun q hq => ?_⟩
  rcases List.mem_append.1 hq with hq | hq
  · exact (h.inner q hq).spare hs (by decide)
  · obtain rfl := List.mem_singleton.1 hq
    exact hi.spare hs (by decide)
theorem OwnBls.push {rows : List BlR} {r : BlR} (h : OwnBls w lo v rows) {v' : Value} (hr : w'.ownsRow lo 36 5 v' (rows.length + 1) (rows.flatMap BlR.cells5 ++ r.cells5)) (hg : w.grownBy w' v.ownBlock) (hi : r.Own w lo) : OwnBls w' lo v' (rows ++ [r]) := by
  have hs := Spare.grown h.row hg
  refine ⟨by rw [List.length_append, List.flatMap_append]; simpa using hr, fun q hq => ?_⟩
  rcases List.mem_append.1 hq with hq | hq
  · exact (h.inner q hq).spare hs (by decide) (by decide)
  · obtain rfl := List.mem_singleton.1 hq
    exact hi.spare hs (by decide) (by decide)
theorem OwnFus.push {rows : List FuR} {r : FuR} (h : OwnFus w lo v rows) {v' : Value} (hr : w'.ownsRow lo 31 2 v' (rows.length + 1) (rows.flatMap FuR.cells2 ++ r.cells2)) (hg : w.grownBy w' v.ownBlock) (hi : r.Own w lo) : OwnFus w' lo v' (rows ++ [r]) := by
  have hs := Spare.grown h.row hg
  refine ⟨by rw [List.length_append, List.flatMap_append]; simpa using hr, fun q hq => ?_⟩
  rcases List.mem_append.1 hq with hq | hq
  · exact OwnBls.spare (h.inner q hq) hs (by decide) (by decide) (by decide)
  · obtain rfl := List.mem_singleton.1 hq
    exact OwnBls.spare hi hs (by decide) (by decide) (by decide)
theorem OwnIns.form {rows : List InR} (h : OwnIns w lo v rows) : ∃ A c, v = .slice A rows.length c ∧ InsAt w A c rows ∧ From lo A rows.length ∧ ∀ x ∈ rows, x.From lo := by
  obtain ⟨A, c, hv, hle, hcap, hnil, hc⟩ := ownsRow_form h.row (by omega)
  refine ⟨A, c, hv, ⟨⟨hle, hcap, hnil⟩, (hc.more (Nat.zero_le _) (Nat.le_refl _)).congr fun i hi j hj => ?_, fun r hr => ?_⟩, hc.from_, fun r hr => ?_⟩
  · rw [flat_getD InR.cells7 7 (fun _ => rfl) default rows i j hi hj]
    match j, hj with
    | 0, _ => rfl
    | 1, _ => rfl
    | 2, _ => rfl
    | 3, _ => rfl
    | 4, _ => rfl
    | 5, _ => rfl
    | 6, _ => rfl
  · obtain ⟨h0, h1, h2⟩ := h.inner r hr
    obtain ⟨h3, h4⟩ := own_hdr h1
    obtain ⟨h5, h6⟩ := own_hdr h2
    exact ⟨h0, h3, h4.more (Nat.zero_le _) (Nat.le_refl _), h5, h6.more (Nat.zero_le _) (Nat.le_refl _)⟩
  · obtain ⟨h0, h1, h2⟩ := h.inner r hr
    obtain ⟨h3, h4⟩ := own_hdr h1
    obtain ⟨h5, h6⟩ := own_hdr h2
    exact ⟨CellsAt.from_ h4, CellsAt.from_ h6⟩
theorem OwnBls.form {rows : List BlR} (h : OwnBls w lo v rows) : ∃ A c, v = .slice A rows.length c ∧ BlksAt w A c rows ∧ From lo A rows.length ∧ ∀ x ∈ rows, x.From lo := by
  obtain ⟨A, c, hv, hle, hcap, hnil, hc⟩ := ownsRow_form h.row (by omega)
  refine ⟨A, c, hv, ⟨⟨hle, hcap, hnil⟩, (hc.more (Nat.zero_le _) (Nat.le_refl _)).congr fun i hi j hj => ?_, fun r hr => ?_⟩, hc.from_, fun r hr => ?_⟩
  · rw [flat_getD BlR.cells5 5 (fun _ => rfl) default rows i j hi hj]
    match j, hj with
    | 0, _ => rfl
    | 1, _ => rfl
    | 2, _ => rfl
    | 3, _ => rfl
    | 4, _ => rfl
  · obtain ⟨h0, h1⟩ := h.inner r hr
    obtain ⟨A', c', e, h3, _, _⟩ := h1.form
    injection e with e1 e2 e3
    subst e1 e3
    exact ⟨h0, h3⟩
  · obtain ⟨h0, h1⟩ := h.inner r hr
    obtain ⟨A', c', e, _, h4, h5⟩ := h1.form
    injection e with e1 e2 e3
    subst e1 e3
    exact ⟨h4, h5⟩
theorem OwnFus.form {rows : List FuR} (h : OwnFus w lo v rows) : ∃ A c, v = .slice A rows.length c ∧ FusAt w A c rows ∧ From lo A rows.length ∧ ∀ x ∈ rows, x.From lo := by
  obtain ⟨A, c, hv, hle, hcap, hnil, hc⟩ := ownsRow_form h.row (by omega)
  refine ⟨A, c, hv, ⟨⟨hle, hcap, hnil⟩, (hc.more (Nat.zero_le _) (Nat.le_refl _)).congr fun i hi j hj => ?_, fun r hr => ?_⟩, hc.from_, fun r hr => ?_⟩
  · rw [flat_getD FuR.cells2 2 (fun _ => rfl) default rows i j hi hj]
    match j, hj with
    | 0, _ => rfl
    | 1, _ => rfl
  · obtain ⟨A', c', e, h3, _, _⟩ := OwnBls.form (h.inner r hr)
    injection e with e1 e2 e3
    subst e1 e3
    exact ⟨h3⟩
  · obtain ⟨A', c', e, _, h4, h5⟩ := OwnBls.form (h.inner r hr)
    injection e with e1 e2 e3
    subst e1 e3
    exact ⟨h4, h5⟩
end
/-- A program of the call's own. -/
structure OwnPr (w : World) (lo : Nat) (p : PrR) : Prop where
  types : OwnTys w lo (.slice p.ta p.types.length p.tc) p.types
  funs : OwnFus w lo (.slice p.fa p.funs.length p.fc) p.funs
theorem OwnPr.prog {w : World} {lo : Nat} {p : PrR} (h : OwnPr w lo p) : ProgIn w p ∧ p.From lo := by
  obtain ⟨A, c, e, h1, h2⟩ := h.types.form
  obtain ⟨A', c', e', h3, h4, h5⟩ := h.funs.form
  injection e with e1 e2 e3
  injection e' with e1' e2' e3'
  subst e1 e3 e1' e3'
  exact ⟨⟨⟨h1, h2.cells.more (Nat.zero_le _) (Nat.le_refl _), fun r hr => (h2.ok r hr).more (Nat.zero_le _) (Nat.le_refl _)⟩, h3⟩, h2.cells.from_, h4, h5⟩
end Go.Proofs.YtbffebcjimhapaaDoor
namespace Go.Proofs.YtbffebcjimhapaaDoor
open Go.ChangeShapes Go.WideShapes Go.ChangeAt Go.RowKit

theorem Hdr.le {A : Option Addr} {n c : Nat} (h : Hdr A n c) : n ≤ 9223372036854775807 := by
  have := Nat.le_trans h.fit h.cap
  unfold maxLen at this
  exact this
end Go.Proofs.YtbffebcjimhapaaDoor
namespace Go.Proofs.YtbffebcjimhapaaDoor
set_option linter.unusedVariables false
set_option linter.unusedSimpArgs false

abbrev Bs := List UInt8
def isBlank (c : UInt8) : Bool := c == 32 || c == 9 || c == 13
def isPlain (c : UInt8) : Bool := !(isBlank c || c == 10 || c == 35)
/-- What stands between a byte. -/
def cutB (x : UInt8) : Bs → List Bs
  | [] => [[]]
  | c :: t => if c = x then [] :: cutB x t else (c :: (cutB x t).headD []) :: (cutB x t).drop 1
def spaced (l : Bs) : Bs := l.map fun c => if c = 9 ∨ c = 13 then 32 else c
/-- A line's words, as the reference has them. -/
def wordsR (l : Bs) : List Bs := (cutB 32 (spaced ((cutB 35 l).headD []))).filter fun w => !w.isEmpty
/-- What reading on from a place answers: the words of the line so far, the lines so far. -/
def outR (s : Bs) (ws : List Bs) (ls : List (List Bs)) : Option (List (List Bs)) :=
  let all := (ws ++ wordsR ((cutB 10 s).headD [])) :: ((cutB 10 s).drop 1).map wordsR
  if all.any (fun l => decide (64 < l.length)) then none else some (ls ++ all.filter fun l => !l.isEmpty)

theorem cut_head (x : UInt8) : ∀ s : Bs, cutB x s = (cutB x s).headD [] :: (cutB x s).drop 1
  | [] => rfl
  | c :: t => by
    unfold cutB
    split <;> rfl
theorem cut_at (x : UInt8) (t : Bs) : cutB x (x :: t) = [] :: cutB x t := by
  rw [cutB, if_pos rfl]
theorem cut_on {x c : UInt8} (h : c ≠ x) (t : Bs) : cutB x (c :: t) = (c :: (cutB x t).headD []) :: (cutB x t).drop 1 := by
  rw [cutB, if_neg h]
theorem cut_app {x : UInt8} {p : Bs} (h : ∀ c ∈ p, c ≠ x) (t : Bs) : cutB x (p ++ t) = (p ++ (cutB x t).headD []) :: (cutB x t).drop 1 := by
  induction p with
  | nil => simpa using cut_head x t
  | cons c p ih =>
    rw [List.cons_append, cut_on (h c (List.mem_cons_self ..)), ih fun d hd => h d (List.mem_cons_of_mem _ hd)]
    rfl
theorem words_nil : wordsR [] = [] := rfl
theorem words_blank {c : UInt8} (h : isBlank c = true) (l : Bs) : wordsR (c :: l) = wordsR l := by
  have h35 : c ≠ 35 := by rintro rfl; exact absurd h (by decide)
  have hs : (if c = 9 ∨ c = 13 then 32 else c) = 32 := by
    unfold isBlank at h
    simp only [Bool.or_eq_true, beq_iff_eq] at h
    rcases h with (rfl | rfl) | rfl <;> rfl
  unfold wordsR
  rw [cut_on h35]
  show (cutB 32 (spaced (c :: (cutB 35 l).headD []))).filter _ = _
  rw [show spaced (c :: (cutB 35 l).headD []) = 32 :: spaced ((cutB 35 l).headD []) by unfold spaced; rw [List.map_cons, hs], cut_at]
  rfl
theorem words_hash (l : Bs) : wordsR (35 :: l) = [] := by
  unfold wordsR
  rw [cut_at]
  rfl
theorem plain_ne {c : UInt8} (h : isPlain c = true) : c ≠ 35 ∧ c ≠ 10 ∧ c ≠ 32 ∧ c ≠ 9 ∧ c ≠ 13 := by
  unfold isPlain isBlank at h
  simp only [Bool.not_eq_true', Bool.or_eq_false_iff, beq_eq_false_iff_ne] at h
  exact ⟨h.2, h.1.2, h.1.1.1.1, h.1.1.1.2, h.1.1.2⟩
/-- A word, and what stands behind it. -/
theorem words_word {p l : Bs} (hp : p ≠ []) (ha : ∀ c ∈ p, isPlain c = true) (hl : ∀ c t, l = c :: t → isPlain c = false) (h10 : ∀ c ∈ l, c ≠ 10) : wordsR (p ++ l) = p :: wordsR l := by
  have e35 := cut_app (x := 35) (fun c hc => (plain_ne (ha c hc)).1) l
  have hsp : spaced p = p := by
    unfold spaced
    conv => rhs; rw [← List.map_id p]
    refine List.map_congr_left fun c hc => ?_
    have := plain_ne (ha c hc)
    rw [if_neg (by rintro (h | h); exact this.2.2.2.1 h; exact this.2.2.2.2 h)]
    rfl
  unfold wordsR
  rw [e35]
  show (cutB 32 (spaced (p ++ (cutB 35 l).headD []))).filter _ = _
  rw [show spaced (p ++ (cutB 35 l).headD []) = p ++ spaced ((cutB 35 l).headD []) by unfold spaced at hsp ⊢; rw [List.map_append, hsp]]
  have hm : (cutB 32 (spaced ((cutB 35 l).headD []))).headD [] = [] := by
    match l, hl, h10 with
    | [], _, _ => rfl
    | c :: t, hl, h10 =>
      have hc := hl c t rfl
      have hc10 := h10 c (List.mem_cons_self ..)
      by_cases h35 : c = 35
      · subst h35; rw [cut_at]; rfl
      · have hb : isBlank c = true := by
          unfold isPlain at hc
          simp only [Bool.not_eq_false', Bool.or_eq_true, beq_iff_eq] at hc
          rcases hc with (h | h) | h
          · exact h
          · exact absurd h hc10
          · exact absurd h h35
        have hs : (if c = 9 ∨ c = 13 then 32 else c) = 32 := by
          unfold isBlank at hb
          simp only [Bool.or_eq_true, beq_iff_eq] at hb
          rcases hb with (rfl | rfl) | rfl <;> rfl
        rw [cut_on h35]
        show (cutB 32 (spaced (c :: (cutB 35 t).headD []))).headD [] = []
        rw [show spaced (c :: (cutB 35 t).headD []) = 32 :: spaced ((cutB 35 t).headD []) by unfold spaced; rw [List.map_cons, hs], cut_at]
        rfl
  rw [cut_app (x := 32) (fun c hc => (plain_ne (ha c hc)).2.2.1), hm, List.append_nil, cut_head 32 (spaced ((cutB 35 l).headD [])), hm]
  rw [List.filter_cons, if_pos (by cases p with | nil => exact absurd rfl hp | cons => rfl)]
  rfl
section
variable {s : Bs} {ws : List Bs} {ls : List (List Bs)}
theorem out_nil : outR [] ws ls = if 64 < ws.length then none else some (ls ++ if ws.isEmpty then [] else [ws]) := by
  unfold outR
  show (if ([ws ++ []].any fun l => decide (64 < l.length)) = true then none else some (ls ++ [ws ++ []].filter fun l => !l.isEmpty)) = _
  rw [List.append_nil]
  by_cases h : 64 < ws.length
  · rw [if_pos (by simpa using h), if_pos h]
  · rw [if_neg (by simpa using h), if_neg h]
    cases ws <;> rfl
theorem out_feed (t : Bs) : outR (10 :: t) ws ls = if 64 < ws.length then none else outR t [] (ls ++ if ws.isEmpty then [] else [ws]) := by
  unfold outR
  rw [cut_at]
  show (if (((ws ++ []) :: (cutB 10 t).map wordsR).any fun l => decide (64 < l.length)) = true then none else some (ls ++ ((ws ++ []) :: (cutB 10 t).map wordsR).filter fun l => !l.isEmpty)) = _
  rw [List.append_nil, List.any_cons, cut_head 10 t]
  show (if (decide (64 < ws.length) || (wordsR ((cutB 10 t).headD []) :: ((cutB 10 t).drop 1).map wordsR).any fun l => decide (64 < l.length)) = true then none else _) = _
  by_cases h : 64 < ws.length
  · rw [if_pos (by simp [h]), if_pos h]
  · rw [if_neg h, decide_eq_false h, Bool.false_or]
    show _ = if (([] ++ wordsR ((cutB 10 t).headD [])) :: ((cutB 10 t).drop 1).map wordsR).any (fun l => decide (64 < l.length)) = true then none else some ((ls ++ if ws.isEmpty then [] else [ws]) ++ (([] ++ wordsR ((cutB 10 t).headD [])) :: ((cutB 10 t).drop 1).map wordsR).filter fun l => !l.isEmpty)
    rw [List.nil_append]
    split
    · rfl
    · rw [List.append_assoc]
      cases ws <;> rfl
theorem out_blank {c : UInt8} (h : isBlank c = true) (t : Bs) : outR (c :: t) ws ls = outR t ws ls := by
  have h10 : c ≠ 10 := by rintro rfl; exact absurd h (by decide)
  unfold outR
  rw [cut_on h10]
  show (if ((ws ++ wordsR (c :: (cutB 10 t).headD [])) :: ((cutB 10 t).drop 1).map wordsR).any _ = true then none else some (ls ++ ((ws ++ wordsR (c :: (cutB 10 t).headD [])) :: ((cutB 10 t).drop 1).map wordsR).filter _)) = _
  rw [words_blank h]
theorem cut_behind : ∀ t : Bs, cutB 10 (t.dropWhile (· != 10)) = [] :: (cutB 10 t).drop 1
  | [] => rfl
  | c :: t => by
    by_cases h : c = 10
    · subst h
      rw [List.dropWhile_cons, if_neg (by decide), cut_at]; rfl
    · rw [List.dropWhile_cons, if_pos (by simpa using h), cut_on h, cut_behind t]
      rfl
theorem out_hash (t : Bs) : outR (35 :: t) ws ls = outR (t.dropWhile (· != 10)) ws ls := by
  unfold outR
  rw [cut_on (by decide), cut_behind]
  show (if ((ws ++ wordsR (35 :: (cutB 10 t).headD [])) :: ((cutB 10 t).drop 1).map wordsR).any _ = true then none else some (ls ++ ((ws ++ wordsR (35 :: (cutB 10 t).headD [])) :: ((cutB 10 t).drop 1).map wordsR).filter _)) = _
  rw [words_hash]
  rfl
theorem cut_no (x : UInt8) : ∀ t : Bs, ∀ c ∈ (cutB x t).headD [], c ≠ x
  | [], c, h => by cases h
  | d :: t, c, h => by
    by_cases e : d = x
    · subst e; rw [cut_at] at h; cases h
    · rw [cut_on e] at h
      rcases List.mem_cons.1 h with rfl | h
      · exact e
      · exact cut_no x t c h
/-- A word is read: p, and r stands behind it. -/
theorem out_word {p r : Bs} (hp : p ≠ []) (ha : ∀ c ∈ p, isPlain c = true) (hr : ∀ c t, r = c :: t → isPlain c = false) : outR (p ++ r) ws ls = outR r (ws ++ [p]) ls := by
  unfold outR
  rw [cut_app (fun c hc => (plain_ne (ha c hc)).2.1)]
  show (if ((ws ++ wordsR (p ++ (cutB 10 r).headD [])) :: ((cutB 10 r).drop 1).map wordsR).any _ = true then none else some (ls ++ ((ws ++ wordsR (p ++ (cutB 10 r).headD [])) :: ((cutB 10 r).drop 1).map wordsR).filter _)) = _
  rw [words_word hp ha ?_ (cut_no 10 r)]
  · rw [List.append_assoc]; rfl
  · intro c t e
    match r, hr with
    | [], _ => cases e
    | d :: r', hr =>
      have hd := hr d r' rfl
      by_cases h10 : d = 10
      · subst h10; rw [cut_at] at e; cases e
      · rw [cut_on h10] at e
        have e2 : d = c := (List.cons.inj e).1
        subst e2
        exact hd
end
end Go.Proofs.YtbffebcjimhapaaDoor
namespace Go.Proofs.YtbffebcjimhapaaDoor
set_option linter.unusedVariables false
set_option linter.unusedSimpArgs false
open Go.ChangeShapes Go.WideShapes Go.ChangeAt Go.RowKit

def toL (s : ByteArray) : Bs := s.data.toList
theorem toL_inj {s t : ByteArray} (h : toL s = toL t) : s = t := by
  obtain ⟨⟨a⟩⟩ := s
  obtain ⟨⟨b⟩⟩ := t
  have h2 : a = b := h
  rw [h2]
theorem toL_size (s : ByteArray) : (toL s).length = s.size := Array.length_toList
theorem toL_extract (s : ByteArray) {i j : Nat} (hj : j ≤ s.size) : toL (s.extract i j) = ((toL s).drop i).take (j - i) := by
  unfold toL
  rw [ByteArray.data_extract, Array.toList_extract]
theorem toL_at (s : ByteArray) {i : Nat} (h : i < s.size) : (toL s)[i]? = some (s[i]'h) := by
  unfold toL
  rw [Array.getElem?_toList]
  exact Array.getElem?_eq_getElem h
/-- A list of texts of the call's own. -/
def OwnStrs (w : World) (lo : Nat) (v : Value) (xs : List ByteArray) : Prop := w.ownsRow lo 9 1 v xs.length (xs.map Value.string)
def StrsAt (w : World) (lo B : Nat) (A : Option Addr) (xs : List ByteArray) : Prop := CellsAt w lo B A 1 xs.length fun i _ => .string (xs.getD i ⟨#[]⟩)
section
variable {w w' : World} {lo lo' : Nat} {v : Value} {xs : List ByteArray}
theorem OwnStrs.nil (w : World) (lo : Nat) : OwnStrs w lo (.slice none 0 0) [] := World.ownsRow_nil _ _ _ _
theorem OwnStrs.keep (h : OwnStrs w lo v xs) (hb : Below w.heap.size w w') : OwnStrs w' lo v xs := ownsRow_keep h hb
theorem OwnStrs.more (h : OwnStrs w lo v xs) (hl : lo' ≤ lo) : OwnStrs w lo' v xs := ownsRow_more h hl
theorem OwnStrs.base (h : OwnStrs w lo v xs) : ∀ k, v.ownBlock = some k → lo ≤ k := own_base h
theorem OwnStrs.full (h : OwnStrs w lo v xs) : ∃ A c, v = .slice A xs.length c ∧ Hdr A xs.length c ∧ StrsAt w 0 w.heap.size A xs := by
  obtain ⟨A, c, hv, hle, hcap, hnil, hc⟩ := ownsRow_form h (by omega)
  refine ⟨A, c, hv, ⟨hle, hcap, hnil⟩, (hc.more (Nat.zero_le _) (Nat.le_refl _)).congr fun i hi j hj => ?_⟩
  obtain rfl : j = 0 := by omega
  simp [List.getD, List.getElem?_eq_getElem hi]
theorem StrsAt.on {A : Option Addr} (h : StrsAt w 0 w.heap.size A xs) (hb : Below w.heap.size w w') : StrsAt w' 0 w'.heap.size A xs := (CellsAt.keep h hb).more (Nat.le_refl _) hb.size
theorem StrsAt.elem {lo B : Nat} {A : Option Addr} (h : StrsAt w lo B A xs) {i : Nat} (hi : i < xs.length) : ∃ b off x, A = some ⟨b, off, none⟩ ∧ b < w.heap.size ∧ w.cell? ⟨b, off + i, none⟩ = some (.string x) ∧ Hid (xs.getD i ⟨#[]⟩ = x) := by
  obtain ⟨b, off, rfl, h1, h2, hc⟩ := h (by omega)
  have c0 := hc i hi 0 (by omega)
  rw [Nat.mul_one, Nat.add_zero] at c0
  exact ⟨b, off, _, rfl, World.block_lt_of_cell? w _ c0, c0, Lib.hid rfl⟩
end
theorem strInfo : (Tryd.prog.info? 9).map (fun i => (i.zero, i.size, i.bytes)) = some (some (.string ⟨#[]⟩), 1, 16) := by kernel_rfl
set_option maxRecDepth 100000 in
/-- append of one text that has just been laid in a block of its own. -/
theorem wpList_appT {w : World} {ops : Array Oper} {rest : List Oper} {o : Oper} {a : Act} {Q : Exit → Act → World → Prop} (hgd : o.guard = none) (s x : Operand)
    (ho : o.op = .call { callee := .builtin .append, args := #[s, x], argTypes := #[51, 51] })
    (lo : Nat) (v : Value) (xs : List ByteArray) (hs : a.eval s = v) (y : ByteArray) (hown : OwnStrs w lo v xs) (hx : a.eval x = .slice (some ⟨w.heap.size, 0, none⟩) 1 1) (hlen : xs.length ≤ 1000000) (hlo : lo ≤ w.heap.size)
    (h : ∀ v' w', OwnStrs w' lo v' (xs ++ [y]) → (w.alloc (.cells #[.string y] 9)).grownBy w' v.ownBlock → wpList Tryd.prog ops Q rest (a.put o.dst v') w') : wpList Tryd.prog ops Q (o :: rest) a (w.alloc (.cells #[.string y] 9)) := by
  obtain ⟨i0, hi, hz0, hz1, hz2⟩ := info_parts strInfo
  refine wpList_appS hgd s x 51 9 ho i0 _ 1 16 Tryd.underlying51 hi hz0 hz1 hz2 rfl (by decide) lo v xs.length _ hs hown _ hx rfl ?_ hlen (by decide) hlo ?_
  · intro u hu
    simp at hu
    subst hu
    rfl
  · intro v' w' h1 h2
    refine h v' w' ?_ h2
    unfold OwnStrs
    rw [List.length_append, List.map_append]
    exact h1
/-- What a call answers: a list of texts of its own, which tell so. -/
def SomeStrs (m : List Bs) (w : World) (e : Ending) (w' : World) : Prop := ∃ v xs, e = .returned v ∧ OwnStrs w' w.heap.size v xs ∧ xs.map toL = m ∧ Below w.heap.size w w'
/-- To cut on, some bytes being read. -/
def cutWith (x : UInt8) (p t : Bs) : List Bs := (p ++ (cutB x t).headD []) :: (cutB x t).drop 1
theorem cutWith_nil (x : UInt8) (t : Bs) : cutWith x [] t = cutB x t := (cut_head x t).symm
theorem cutWith_end (x : UInt8) (p : Bs) : cutWith x p [] = [p] := by unfold cutWith; rw [show cutB x [] = [[]] from rfl]; simp
theorem cutWith_at (x : UInt8) (p t : Bs) : cutWith x p (x :: t) = p :: cutWith x [] t := by
  unfold cutWith
  rw [cut_at]
  show (p ++ []) :: cutB x t = p :: ([] ++ (cutB x t).headD []) :: (cutB x t).drop 1
  rw [List.append_nil, List.nil_append, ← cut_head]
theorem cutWith_on {x c : UInt8} (h : c ≠ x) (p t : Bs) : cutWith x p (c :: t) = cutWith x (p ++ [c]) t := by
  unfold cutWith
  rw [cut_on h]
  simp
end Go.Proofs.YtbffebcjimhapaaDoor
namespace Go.Proofs.YtbffebcjimhapaaDoor
set_option linter.unusedVariables false
set_option linter.unusedSimpArgs false
open Go.ChangeShapes Go.WideShapes Go.ChangeAt Go.RowKit

/-- A block of one type, none of it frozen. -/
def TBlk (w : World) (g : Nat) (t : TypeId) : Prop := ∃ cur : Array Value, w.heap[g]? = some (.cells cur t (0, 0))
theorem TBlk.beneath {w w' : World} {g : Nat} {t : TypeId} (h : TBlk w g t) (hb : Below w.heap.size w w') : TBlk w' g t := by
  obtain ⟨cur, h⟩ := h
  exact ⟨cur, (hb.block g (Array.getElem?_eq_some_iff.1 h).1).trans h⟩
structure LnR where
  a : Option Addr
  c : Nat
  xs : List ByteArray
deriving Inhabited
def LnR.cell (r : LnR) : Value := .slice r.a r.xs.length r.c
def LnR.data (r : LnR) : List Bs := r.xs.map toL
/-- A line that lies somewhere. -/
structure LnR.At (w : World) (r : LnR) : Prop where
  hdr : Hdr r.a r.xs.length r.c
  strs : StrsAt w 0 w.heap.size r.a r.xs
/-- A line that lies in a block of texts. -/
structure LnR.Ok (w : World) (r : LnR) : Prop where
  at_ : r.At w
  blk : 0 < r.xs.length → ∃ b o, r.a = some ⟨b, o, none⟩ ∧ TBlk w b 9
theorem LnR.At.on {w w' : World} {r : LnR} (h : r.At w) (hb : Below w.heap.size w w') : r.At w' := ⟨h.hdr, h.strs.on hb⟩
theorem LnR.Ok.on {w w' : World} {r : LnR} (h : r.Ok w) (hb : Below w.heap.size w w') : r.Ok w' := ⟨h.at_.on hb, fun hn => by
  obtain ⟨b, o, e, ht⟩ := h.blk hn
  exact ⟨b, o, e, ht.beneath hb⟩⟩
theorem OwnStrs.row {w : World} {lo : Nat} {v : Value} {xs : List ByteArray} (h : OwnStrs w lo v xs) : ∃ r : LnR, v = r.cell ∧ r.xs = xs ∧ r.Ok w := by
  obtain ⟨A, c, hv, hh, hs⟩ := h.full
  refine ⟨⟨A, c, xs⟩, hv, rfl, ⟨hh, hs⟩, fun hn => ?_⟩
  rcases h.2 with ⟨_, h0⟩ | ⟨g, cap, cur, hv2, _, hg, _⟩
  · have : 0 < xs.length := hn
    omega
  · rw [hv] at hv2
    injection hv2 with hv2 _ _
    exact ⟨g, 0, hv2, cur, hg⟩
/-- Lines that came in, or that the call owns: how they are read. -/
structure LinesAt (w : World) (A : Option Addr) (c : Nat) (rows : List LnR) : Prop where
  hdr : Hdr A rows.length c
  cells : CellsAt w 0 w.heap.size A 1 rows.length fun i _ => (rows.getD i default).cell
  rows : ∀ r ∈ rows, r.At w
theorem LinesAt.on {w w' : World} {A : Option Addr} {c : Nat} {rows : List LnR} (h : LinesAt w A c rows) (hb : Below w.heap.size w w') : LinesAt w' A c rows :=
  ⟨h.hdr, (CellsAt.keep h.cells hb).more (Nat.le_refl _) hb.size, fun r hr => (h.rows r hr).on hb⟩
theorem LinesAt.elem {w : World} {A : Option Addr} {c : Nat} {rows : List LnR} (h : LinesAt w A c rows) {i : Nat} (hi : i < rows.length) : ∃ b off r, A = some ⟨b, off, none⟩ ∧ b < w.heap.size ∧ w.cell? ⟨b, off + i, none⟩ = some (.slice r.a r.xs.length r.c) ∧ LnR.At w r ∧ Hid (rows.getD i default = r) := by
  obtain ⟨b, off, rfl, h1, h2, hc⟩ := h.cells (by omega)
  have c0 := hc i hi 0 (by omega)
  rw [Nat.mul_one, Nat.add_zero] at c0
  have hm : rows.getD i default ∈ rows := by rw [List.getD_eq_getElem?_getD, List.getElem?_eq_getElem hi]; exact List.getElem_mem hi
  exact ⟨b, off, _, rfl, World.block_lt_of_cell? w _ c0, c0, h.rows _ hm, Lib.hid rfl⟩
/-- Lines of the call's own. -/
structure OwnLines (w : World) (lo : Nat) (v : Value) (rows : List LnR) : Prop where
  row : w.ownsRow lo 51 1 v rows.length (rows.map LnR.cell)
  ok : ∀ r ∈ rows, r.Ok w
section
variable {w w' : World} {lo lo' : Nat} {v : Value} {rows : List LnR}
theorem OwnLines.nil (w : World) (lo : Nat) : OwnLines w lo (.slice none 0 0) [] := ⟨World.ownsRow_nil _ _ _ _, fun r hr => by cases hr⟩
theorem OwnLines.keep (h : OwnLines w lo v rows) (hb : Below w.heap.size w w') : OwnLines w' lo v rows := ⟨ownsRow_keep h.row hb, fun r hr => (h.ok r hr).on hb⟩
theorem OwnLines.more (h : OwnLines w lo v rows) (hl : lo' ≤ lo) : OwnLines w lo' v rows := ⟨ownsRow_more h.row hl, h.ok⟩
theorem OwnLines.full (h : OwnLines w lo v rows) : ∃ A c, v = .slice A rows.length c ∧ LinesAt w A c rows := by
  obtain ⟨A, c, hv, hle, hcap, hnil, hc⟩ := ownsRow_form h.row (by omega)
  refine ⟨A, c, hv, ⟨hle, hcap, hnil⟩, (hc.more (Nat.zero_le _) (Nat.le_refl _)).congr fun i hi j hj => ?_, fun r hr => (h.ok r hr).at_⟩
  obtain rfl : j = 0 := by omega
  simp [List.getD, List.getElem?_eq_getElem hi]
end
theorem linesInfo : (Tryd.prog.info? 51).map (fun i => (i.zero, i.size, i.bytes)) = some (some (.slice none 0 0), 1, 24) := by kernel_rfl
set_option maxRecDepth 100000 in
/-- append of one list that has just been laid in a block of its own. -/
theorem wpList_appL {w : World} {ops : Array Oper} {rest : List Oper} {o : Oper} {a : Act} {Q : Exit → Act → World → Prop} (hgd : o.guard = none) (s x : Operand)
    (ho : o.op = .call { callee := .builtin .append, args := #[s, x], argTypes := #[46, 46] })
    (lo : Nat) (v : Value) (rows : List LnR) (hs : a.eval s = v) (r : LnR) (hown : OwnLines w lo v rows) (hr : r.Ok w) (hx : a.eval x = .slice (some ⟨w.heap.size, 0, none⟩) 1 1) (hlen : rows.length ≤ 1000000) (hlo : lo ≤ w.heap.size)
    (h : ∀ v' w', OwnLines w' lo v' (rows ++ [r]) → (w.alloc (.cells #[.slice r.a r.xs.length r.c] 51)).grownBy w' v.ownBlock → wpList Tryd.prog ops Q rest (a.put o.dst v') w') : wpList Tryd.prog ops Q (o :: rest) a (w.alloc (.cells #[.slice r.a r.xs.length r.c] 51)) := by
  obtain ⟨i0, hi, hz0, hz1, hz2⟩ := info_parts linesInfo
  refine wpList_appS hgd s x 46 51 ho i0 _ 1 24 Tryd.underlying46 hi hz0 hz1 hz2 rfl (by decide) lo v rows.length _ hs hown.row _ hx rfl ?_ hlen (by decide) hlo ?_
  · intro u hu
    simp at hu
    subst hu
    rfl
  · intro v' w' h1 h2
    have hb : Below w.heap.size w (w.alloc (.cells #[.slice r.a r.xs.length r.c] 51)) := (Below.refl _ _).alloc (Nat.le_refl _) _
    have ok2 : ∀ q : LnR, q.Ok w → q.Ok w' := fun q hq => by
      have hq2 := hq.on hb
      have hk : ∀ b, TBlk (w.alloc (.cells #[.slice r.a r.xs.length r.c] 51)) b 9 → b < (w.alloc (.cells #[.slice r.a r.xs.length r.c] 51)).heap.size ∧ w'.heap[b]? = (w.alloc (.cells #[.slice r.a r.xs.length r.c] 51)).heap[b]? := fun b ht => by
        obtain ⟨cur, ht⟩ := ht
        have hl := (Array.getElem?_eq_some_iff.1 ht).1
        refine ⟨hl, h2.block b hl fun e => ?_⟩
        rcases (World.ownsRow.alloc hown.row _).2 with ⟨hv, _⟩ | ⟨g, cap, cur2, hv, _, hg, _⟩
        · rw [hv] at e; cases e
        · rw [hv] at e
          have e2 : b = g := Option.some.inj e
          subst e2
          rw [hg] at ht
          injection ht with ht
          injection ht with _ ht _
          exact absurd ht (by decide)
      refine ⟨⟨hq2.at_.hdr, fun hn => ?_⟩, fun hn => ?_⟩
      · obtain ⟨b, off, e, l1, l2, hc⟩ := hq2.at_.strs hn
        obtain ⟨b', o', e', ht⟩ := hq2.blk hn
        rw [e] at e'
        injection e' with e'
        injection e' with e' _ _
        subst e'
        obtain ⟨k1, k2⟩ := hk b ht
        exact ⟨b, off, e, l1, Nat.lt_of_lt_of_le l2 h2.size, fun i hi j hj => by rw [World.cell?_of_block k2]; exact hc i hi j hj⟩
      · obtain ⟨b, o, e, ht⟩ := hq2.blk hn
        obtain ⟨k1, k2⟩ := hk b ht
        obtain ⟨cur, ht⟩ := ht
        exact ⟨b, o, e, cur, k2.trans ht⟩
    refine h v' w' ⟨?_, fun q hq => ?_⟩ h2
    · rw [List.length_append, List.map_append]
      exact h1
    · rcases List.mem_append.1 hq with hq | hq
      · exact ok2 q (hown.ok q hq)
      · rw [List.mem_singleton.1 hq]; exact ok2 r hr
/-- What Lines answers. -/
def LinesOut (o : Option (List (List Bs))) (w : World) (e : Ending) (w' : World) : Prop :=
  match o with
  | none => e = .returned (.tuple #[.slice none 0 0, .int .i64 4]) ∧ Below w.heap.size w w'
  | some m => ∃ v rows, e = .returned (.tuple #[v, .int .i64 0]) ∧ OwnLines w' w.heap.size v rows ∧ rows.map LnR.data = m ∧ Below w.heap.size w w'
/-- A text's lines: none, if there is too much of it. -/
def linesP (s : Bs) : Option (List (List Bs)) := if 16384 < s.length then none else outR s [] []
theorem outR_start (s : Bs) : outR s [] [] = if ((cutB 10 s).map wordsR).any (fun l => decide (64 < l.length)) then none else some (((cutB 10 s).map wordsR).filter fun l => !l.isEmpty) := by
  have h : (cutB 10 s).map wordsR = ([] ++ wordsR ((cutB 10 s).headD [])) :: ((cutB 10 s).drop 1).map wordsR := by
    rw [List.nil_append]
    conv => lhs; rw [cut_head 10 s]
    rfl
  rw [h]
  rfl
end Go.Proofs.YtbffebcjimhapaaDoor
