/-
  copy of values; slices.Clone at blocks; a memory half way to one of the call's own.
-/
import Derived.Test.YthddacnnhmcoaaaMmTwin
import Derived.Test.YthddacnnhmcoaaaMmLoops
import Derived.Laws.CopyOwn
import Derived.Laws.MakeOwn
import Derived.Lib.SliceRun
namespace Go.Proofs.Ythddacnnhmcoaaa
set_option linter.unusedVariables false
set_option linter.unusedSimpArgs false
open Go.Instr
open Go.ChangeShapes Go.WideShapes Go.ChangeAt Go.RowKit

theorem run_copy_rows (P : Program) (w : World) (dT sT ty elem : TypeId) (g o dLen dCap : Nat) (a : Addr) (sLen sCap : Nat) (cur : Array Value) (t : TypeId) (cs : List Value) (n size : Nat)
    (hu : P.underlying dT = some (.slice elem)) (hs : (P.info? elem).map (·.size) = some size)
    (hg : w.heap[g]? = some (.cells cur t (0, 0))) (hm : Nat.min sLen dLen = n) (hn : cs.length = n * size)
    (hsrc : ∀ j v, cs[j]? = some v → w.cell? (a.add j) = some v) (hfit : o + cs.length ≤ cur.size) (h1 : ∀ v ∈ cs, v.oneCell' = true) :
    (Builtin.copy_ #[dT, sT] ty #[.slice (some ⟨g, o, none⟩) dLen dCap, .slice (some a) sLen sCap]).run P w =
      .ok (goInt n) (w.setRow g (cur.toList.take o ++ cs ++ cur.toList.drop (o + cs.length)).toArray) := by
  have hl := run_loadCells_list (P := P) w a cs hsrc
  have hst := run_storeCells_at P g o t cs 0 cur w hg (by simpa using hfit) h1
  cases hq : P.info? elem with
  | none => simp [hq] at hs
  | some i =>
    have hi : i.size = size := by simpa [hq] using hs
    simp [Builtin.copy_, run_underlying hu, Builtin.lenOf, Builtin.firstCells, sizeOf, typeInfo, hq, hi, hm, ← hn, hl, hst]
theorem run_copy_zero (P : Program) (w : World) (dT sT ty elem : TypeId) (d a : Option Addr) (dLen dCap sLen sCap size : Nat) (hu : P.underlying dT = some (.slice elem)) (hs : (P.info? elem).map (·.size) = some size) (hn : Nat.min sLen dLen = 0) :
    (Builtin.copy_ #[dT, sT] ty #[.slice d dLen dCap, .slice a sLen sCap]).run P w = .ok (goInt 0) w := by
  cases hq : P.info? elem with
  | none => simp [hq] at hs
  | some i =>
    have hl : ∀ (x : Addr), (loadCells x 0).run P w = .ok #[] w := fun x => by simpa using run_loadCells_list (P := P) w x [] (by simp)
    cases d <;> cases a <;> simp [Builtin.copy_, run_underlying hu, Builtin.lenOf, Builtin.firstCells, sizeOf, typeInfo, hq, hn, storeCells, hl]
theorem valSize : (Try.prog.info? 29).map (·.size) = some 4 := by kernel_rfl
theorem wpList_copy_vals {w : World} {ops : Array Oper} {rest : List Oper} {o : Oper} {a : Act} {Q : Exit → Act → World → Prop} (hgd : o.guard = none) (d s : Operand)
    (ho : o.op = .call { callee := .builtin .copy, args := #[d, s], argTypes := #[68, 68] })
    (dp sp : Option Addr) (dLen dCap sLen sCap : Nat) (hd : a.eval d = .slice dp dLen dCap) (hs : a.eval s = .slice sp sLen sCap)
    (g q : Nat) (L : List Value) (hg : w.heap[g]? = some (.cells L.toArray 29 (0, 0))) (vs : List Vl) (hn : vs.length = sLen) (hle : sLen ≤ dLen) (hpos : 0 < sLen → dp = some ⟨g, q, none⟩) {lo B : Nat} (hsrc : ValsAt w lo B sp vs) (hfit : 0 < sLen → q + vs.length * 4 ≤ L.length)
    (h : ∀ w', Hid (w'.heap[g]? = some (.cells (splice L q (vs.flatMap Vl.cells4)).toArray 29 (0, 0))) → w.grownBy w' (some g) → wpList Try.prog ops Q rest (a.put o.dst (goInt sLen)) w') : wpList Try.prog ops Q (o :: rest) a w := by
  have hmin : Nat.min sLen dLen = sLen := Nat.min_eq_left hle
  refine wpList_plain hgd fun K hK => ?_
  by_cases h0 : sLen = 0
  · subst h0
    obtain rfl := List.eq_nil_of_length_eq_zero hn
    have hrun := run_copy_zero Try.prog w 68 68 o.type 29 dp sp dLen dCap 0 sCap 4 Try.underlying68 valSize hmin
    unfold Oper.wp
    simp [execOp, ho, resolve, invoke, builtin, hd, hs, hrun, Result.andThen]
    exact hK _ _ (h w (show _ = _ by simpa [splice] using hg) ⟨rfl, rfl, rfl, Nat.le_refl _, fun _ _ _ => rfl⟩)
  · have hp := hpos (by omega)
    subst hp
    obtain ⟨b, off, hsp, _⟩ := hsrc (by omega)
    have hfl : (vs.flatMap Vl.cells4).length = sLen * 4 := by rw [flat_len5 Vl.cells4 4 (fun _ => rfl), hn]
    have hrun := run_copy_rows Try.prog w 68 68 o.type 29 g q dLen dCap ⟨b, off, none⟩ sLen sCap L.toArray 29 (vs.flatMap Vl.cells4) sLen 4 Try.underlying68 valSize hg hmin hfl (vals_news hsrc _ hsp) (by have := hfit (by omega); simp only [List.size_toArray]; omega) (vals_one vs)
    rw [← hsp] at hrun
    unfold Oper.wp
    simp [execOp, ho, resolve, invoke, builtin, hd, hs, hrun, Result.andThen]
    refine hK _ _ (h _ (show _ = _ by simpa [splice] using setRow_heap w g _ _ 29 _ hg) ⟨rfl, rfl, rfl, by simp [World.setRow], fun k _ hk => setRow_other w g k _ (fun e => hk (by rw [e]))⟩)

def SomeRowB (rows : List BkR) (w : World) (e : Ending) (w' : World) : Prop := ∃ v, e = .returned v ∧ w'.ownsRow w.heap.size 70 5 v rows.length (rows.flatMap BkR.cells5) ∧ Below w.heap.size w w'
theorem blks_news {w : World} {lo B : Nat} {A : Option Addr} {rows : List BkR} (h : BlksAt w lo B A rows) : ∀ ad, A = some ad → ∀ j u, (rows.flatMap BkR.cells5)[j]? = some u → w.cell? (ad.add j) = some u := by
  intro ad hA q u hq
  obtain ⟨hlt, hu⟩ := List.getElem?_eq_some_iff.1 hq
  rw [flat_len5 BkR.cells5 5 (fun _ => rfl)] at hlt
  obtain ⟨b, off, e, h1, h2, hc⟩ := h.cells (by omega)
  rw [hA] at e
  injection e with e
  subst e
  rw [add_lit]
  have hi : q / 5 < rows.length := by omega
  have hj : q % 5 < 5 := by omega
  have hcc := hc (q / 5) hi (q % 5) hj
  rw [show off + q / 5 * 5 + q % 5 = off + q by omega] at hcc
  rw [hcc, ← hu]
  have hf := flat_getD BkR.cells5 5 (fun _ => rfl) default rows (q / 5) (q % 5) hi hj
  rw [show q / 5 * 5 + q % 5 = q by omega, List.getD_eq_getElem?_getD, hq] at hf
  rw [show (rows.flatMap BkR.cells5)[q] = u from hu]
  have hf2 : u = ((rows.getD (q / 5) default).cells5).getD (q % 5) undef := hf
  rw [hf2]
  generalize q % 5 = j at hj
  match j, hj with
  | 0, _ => rfl
  | 1, _ => rfl
  | 2, _ => rfl
  | 3, _ => rfl
  | 4, _ => rfl
theorem blks_one (rows : List BkR) : ∀ u ∈ rows.flatMap BkR.cells5, u.oneCell' = true := by
  intro u hu
  obtain ⟨r, _, hr⟩ := List.mem_flatMap.1 hu
  simp only [BkR.cells5, List.mem_cons, List.not_mem_nil, or_false] at hr
  rcases hr with rfl | rfl | rfl | rfl | rfl <;> rfl
theorem wpList_appBlks {w : World} {ops : Array Oper} {rest : List Oper} {o : Oper} {a : Act} {Q : Exit → Act → World → Prop} (hgd : o.guard = none) (s x : Operand)
    (ho : o.op = .call { callee := .builtin .append, args := #[s, x], argTypes := #[22, 22] })
    (base lo B : Nat) (v : Value) (hs : a.eval s = v) (hown : w.ownsRow base 70 5 v 0 []) (A : Option Addr) (c : Nat) (rows : List BkR) (hx : a.eval x = .slice A rows.length c) (hA : A = none → rows.length = 0 ∧ c = 0) (hys : BlksAt w lo B A rows)
    (hlen : rows.length ≤ 1000000) (hbase : base ≤ w.heap.size)
    (h : ∀ v' w', w'.ownsRow base 70 5 v' rows.length (rows.flatMap BkR.cells5) → w.grownBy w' v.ownBlock → wpList Try.prog ops Q rest (a.put o.dst v') w') : wpList Try.prog ops Q (o :: rest) a w := by
  obtain ⟨i0, hi, hz0, hz1, hz2⟩ := info_parts blkInfo
  refine wpList_app hgd s x 22 ho base 70 i0 _ 5 56 Try.underlying22 hi hz0 hz1 hz2 rfl (by decide) v 0 [] hs hown A rows.length c (rows.flatMap BkR.cells5) hx hA (flat_len5 BkR.cells5 5 (fun _ => rfl) rows) (blks_news hys) (blks_one rows) ?_ ?_ hbase ?_
  · unfold maxLen; omega
  · omega
  · intro v' w' h1 h2
    rw [Nat.zero_add, List.nil_append] at h1
    exact h v' w' h1 h2
theorem cloneBlks_any {w : World} {lo B : Nat} {A : Option Addr} {c : Nat} {rows : List BkR} (hh : Hdr A rows.length c) (hx : BlksAt w lo B A rows) (hB : B ≤ w.heap.size) (hl : rows.length ≤ 1000) :
    Calls Try.prog 43 #[.slice A rows.length c] w (SomeRowB rows w) := by
  cases A with
  | none =>
    obtain ⟨h0, hc⟩ := hh.nil rfl
    obtain rfl := List.eq_nil_of_length_eq_zero h0
    subst hc
    clear hh hx hl h0
    have qn : ∀ (w : World) (a : Option Addr) (n c n' c' : Nat), (binOp .eql 22 (.slice a n c) (.slice none n' c')).run Try.prog w = .ok (.bool a.isNone) w := fun w a n c n' c' => Lib.run_eql_slice_nil w _ _ a n c n' c' Try.underlying22
    go_enter Try.func43, Try.ntmps43
    go_wp2_with fail
    go_ret
    exact ⟨_, rfl, World.ownsRow_nil _ _ _ _, Below.refl _ _⟩
  | some ad =>
    have hb0 : Below w.heap.size w (w.alloc (.cells #[] 70)) := (Below.refl _ _).alloc (Nat.le_refl _) _
    have HX := Lib.hid ((hx.more (Nat.le_refl _) hB).keep hb0)
    have HB := Lib.hid hb0
    have HZ : Hid ((w.alloc (.cells #[] 70)).ownsRow w.heap.size 70 5 (.slice (some ⟨w.heap.size, 0, none⟩) 0 0) 0 []) := Lib.hid (World.ownsRow_lit w #[] 0 (Nat.le_refl _) (by unfold maxLen; omega) rfl)
    clear hx hh hb0
    have qn : ∀ (w : World) (a : Option Addr) (n c n' c' : Nat), (binOp .eql 22 (.slice a n c) (.slice none n' c')).run Try.prog w = .ok (.bool a.isNone) w := fun w a n c n' c' => Lib.run_eql_slice_nil w _ _ a n c n' c' Try.underlying22
    go_enter Try.func43, Try.ntmps43
    go_wp2_with (at_builtin; refine wpList_appBlks rfl (.tmp 5) (.tmp 6) rfl w.heap.size _ _ _ rfl HZ.out (some ad) c rows rfl (fun h => by cases h) HX.out (by omega) (by simp) ?_; intro v1 w1 hown1 hg1; refine pause ?_)
    have HB1 := Lib.hid (HB.out.grown hg1 (by simp) (fun k hk => by have : w.heap.size = k := Option.some.inj hk; omega))
    have HO := Lib.hid hown1
    clear hown1 hg1
    refine resume ?_
    go_wp2_with fail
    go_ret
    exact ⟨_, rfl, HO.out, HB1.out⟩
end Go.Proofs.Ythddacnnhmcoaaa
