/-
  The reference's words of a line. The reference's lines of a text. The program's lines of a text. The walk of the reference of num (fescueref01): what Write writes, what Read reads. The walk of fescueref01.Read. The walks of Small, the program's and the reference's. The number of a mark: the program's and the reference's. The reader of a program: what it holds, and worlds that are turned at its block alone.
-/
import Derived.Test.YtbffebcjimhapaaDoorMg12
import Derived.Lib.ConvBytes
import Derived.Laws.IdiomStrings
import Derived.Laws.Concat
import Derived.Laws.BytesString
import Derived.WalkSpells
import Derived.LoopTactic
namespace Go.Proofs.YtbffebcjimhapaaDoor
set_option linter.unusedVariables false
set_option linter.unusedSimpArgs false
open Go.ChangeShapes Go.WideShapes Go.ChangeAt Go.RowKit

/-- Bytes that lie in a block, none of them frozen. -/
structure BtsAt (w : World) (g : Nat) (l : Bs) : Prop where
  lt : g < w.heap.size
  cell : ∀ j, j < l.length → w.cell? ⟨g, j, none⟩ = some (.int .u8 (l.getD j 0).toNat)
  free : ∀ j, j < l.length → w.frozen? ⟨g, j, none⟩ = false
theorem BtsAt.on {w w' : World} {g : Nat} {l : Bs} (h : BtsAt w g l) (hb : Below w.heap.size w w') : BtsAt w' g l :=
  ⟨Nat.lt_of_lt_of_le h.lt hb.size, fun j hj => (hb.cell (p := ⟨g, j, none⟩) h.lt).trans (h.cell j hj), fun j hj => (World.frozen?_of_block (hb.block g h.lt)).trans (h.free j hj)⟩
theorem BtsAt.put {w : World} {g : Nat} {l : Bs} (h : BtsAt w g l) {k : Nat} (hk : k < l.length) (c : UInt8) : BtsAt (w.setCell ⟨g, k, none⟩ (.int .u8 c.toNat)) g (l.set k c) := by
  refine ⟨by rw [show (w.setCell ⟨g, k, none⟩ (.int .u8 c.toNat)).heap.size = w.heap.size by simp [World.setCell]]; exact h.lt, fun j hj => ?_, fun j hj => ?_⟩
  · rw [List.length_set] at hj
    by_cases e : j = k
    · subst e
      rw [World.cell?_setCell_same w _ _ (h.cell j hj)]
      simp [List.getD, hj]
    · rw [World.cell?_setCell_other _ _ _ _ (fun e2 => e (by injection e2 with _ e2 _; exact e2.symm)), h.cell j hj]
      have e3 : ¬ k = j := fun e4 => e e4.symm
      simp [List.getD, List.getElem?_set, e3]
  · rw [List.length_set] at hj
    have := h.free j hj
    simpa [World.frozen?_setCell] using this
theorem bytes_below (w : World) (e : TypeId) (s : ByteArray) : Below w.heap.size w (Lib.bytesWorld w e s) := by
  have h : Below w.heap.size w (w.drew.alloc (.cells (Lib.bytesCells w e s) e)) := ((Below.refl _ _).drew).alloc (Nat.le_refl _) _
  exact ⟨h.os, h.tape, h.output, by rw [Lib.bytesWorld_size]; omega, fun k hk => Lib.bytesWorld_at_old w e s k hk⟩
theorem bytes_at (w : World) (e : TypeId) (s : ByteArray) : BtsAt (Lib.bytesWorld w e s) w.heap.size (toL s) := by
  refine ⟨by rw [Lib.bytesWorld_size]; omega, fun j hj => ?_, fun j hj => ?_⟩
  · rw [toL_size] at hj
    exact Lib.bytesWorld_cell w e s j hj
  · rw [toL_size] at hj
    have hlt : j < (Lib.bytesCells w e s).size := by
      simp [Lib.bytesCells]
      have : s.data.size = s.size := rfl
      omega
    simp [World.frozen?, Lib.bytesWorld_at_new]
    omega
/-- Some bytes being turned. -/
def turned (l : Bs) (k : Nat) : Bs := spaced (l.take k) ++ l.drop k
theorem turned_len (l : Bs) (k : Nat) : (turned l k).length = l.length := by
  unfold turned spaced
  rw [List.length_append, List.length_map, List.length_take, List.length_drop]
  omega
theorem turned_at (l : Bs) {k : Nat} (h : k < l.length) : (turned l k).getD k 0 = l.getD k 0 := by
  unfold turned spaced
  rw [List.getD_eq_getElem?_getD, List.getElem?_append_right (by rw [List.length_map, List.length_take]; omega), List.length_map, List.length_take, List.getElem?_drop, show k + (k - min k l.length) = k by omega, List.getD_eq_getElem?_getD]
theorem turned_on (l : Bs) {k : Nat} (h : k < l.length) : turned l (k + 1) = (turned l k).set k (if l.getD k 0 = 9 ∨ l.getD k 0 = 13 then 32 else l.getD k 0) := by
  unfold turned
  have hd : l.drop k = l[k] :: l.drop (k + 1) := List.drop_eq_getElem_cons h
  have ht : l.take (k + 1) = l.take k ++ [l[k]] := by rw [List.take_add_one, List.getElem?_eq_getElem h]; rfl
  have hg : l.getD k 0 = l[k] := by rw [List.getD_eq_getElem?_getD, List.getElem?_eq_getElem h]; rfl
  rw [hd, ht, hg]
  unfold spaced
  rw [List.map_append, List.set_append_right _ _ (by rw [List.length_map, List.length_take]; omega), List.length_map, List.length_take, show k - min k l.length = 0 by omega, List.append_assoc]
  rfl
theorem turned_all (l : Bs) : turned l l.length = spaced l := by
  unfold turned
  rw [List.take_length, List.drop_length, List.append_nil]
theorem turned_zero (l : Bs) : turned l 0 = l := by unfold turned spaced; simp
theorem beq_nat {a b : UInt8} (h : a ≠ b) : ((a.toNat : Int) == (b.toNat : Int)) = false := by
  rw [beq_eq_false_iff_ne]
  intro e
  exact h (UInt8.toNat_inj.1 (by omega))
theorem head_of {xs : List ByteArray} {m : List Bs} (h : xs.map toL = m) (hn : 0 < xs.length) : toL (xs.getD 0 ⟨#[]⟩) = m.headD [] := by
  subst h
  match xs, hn with
  | x :: r, _ => rfl
theorem cut_pos (x : UInt8) (s : Bs) : 0 < (cutB x s).length := by rw [cut_head]; exact Nat.succ_pos _
theorem cut_small (x : UInt8) : ∀ s : Bs, (cutB x s).length ≤ s.length + 1 ∧ ∀ l ∈ cutB x s, l.length ≤ s.length
  | [] => ⟨Nat.le_refl _, fun l hl => by rw [List.mem_singleton.1 hl]; exact Nat.zero_le _⟩
  | c :: t => by
    obtain ⟨h1, h2⟩ := cut_small x t
    by_cases h : c = x
    · subst h
      rw [cut_at]
      refine ⟨by simp only [List.length_cons]; omega, fun l hl => ?_⟩
      rcases List.mem_cons.1 hl with rfl | hl
      · exact Nat.zero_le _
      · have := h2 l hl; simp only [List.length_cons]; omega
    · rw [cut_on h]
      rw [cut_head x t] at h1 h2
      refine ⟨by simp only [List.length_cons] at h1 ⊢; omega, fun l hl => ?_⟩
      rcases List.mem_cons.1 hl with rfl | hl
      · have := h2 _ (List.mem_cons_self ..); simp only [List.length_cons]; omega
      · have := h2 l (List.mem_cons_of_mem _ hl); simp only [List.length_cons]; omega
theorem set_same (l : Bs) {k : Nat} (h : k < l.length) : l.set k (l.getD k 0) = l := by
  rw [List.getD_eq_getElem?_getD, List.getElem?_eq_getElem h]
  exact List.set_getElem_self h
theorem toL_mk (l : Bs) : toL ⟨l.toArray⟩ = l := rfl
theorem spaced_len (l : Bs) : (spaced l).length = l.length := List.length_map _
/-- The words that are some. -/
def some_ (l : List Bs) : List Bs := l.filter fun w => !w.isEmpty
theorem some_on {xs : List ByteArray} {k : Nat} {x : ByteArray} (h : k < xs.length) (e : xs.getD k ⟨#[]⟩ = x) : some_ ((xs.take (k + 1)).map toL) = some_ ((xs.take k).map toL) ++ if x = ⟨#[]⟩ then [] else [toL x] := by
  have hx : xs[k] = x := by rw [← e, List.getD_eq_getElem?_getD, List.getElem?_eq_getElem h]; rfl
  rw [List.take_add_one, List.getElem?_eq_getElem h, hx]
  unfold some_
  rw [List.map_append, List.filter_append]
  congr 1
  by_cases h0 : x = ⟨#[]⟩
  · rw [if_pos h0, h0]; rfl
  · rw [if_neg h0]
    show ([toL x].filter fun w => !w.isEmpty) = [toL x]
    rw [List.filter_cons, if_pos]
    · rfl
    · cases ht : toL x with
      | nil => exact absurd (toL_inj (t := ⟨#[]⟩) ht) h0
      | cons a l => rfl
end Go.Proofs.YtbffebcjimhapaaDoor
namespace Go.Proofs.YtbffebcjimhapaaDoor
set_option linter.unusedVariables false
set_option linter.unusedSimpArgs false
open Go.ChangeShapes Go.WideShapes Go.ChangeAt Go.RowKit

def wordsF (x : ByteArray) : List Bs := wordsR (toL x)
theorem takeF (xs : List ByteArray) {k : Nat} (h : k < xs.length) {x : ByteArray} (e : xs.getD k ⟨#[]⟩ = x) : (xs.take (k + 1)).map wordsF = (xs.take k).map wordsF ++ [wordsF x] := by
  have hx : xs[k] = x := by rw [← e, List.getD_eq_getElem?_getD, List.getElem?_eq_getElem h]; rfl
  rw [List.take_add_one, List.getElem?_eq_getElem h, hx, List.map_append]
  rfl
theorem anyF (xs : List ByteArray) {k : Nat} (h : k < xs.length) {x : ByteArray} (e : xs.getD k ⟨#[]⟩ = x) (hx : 64 < (wordsF x).length) : (xs.map wordsF).any (fun l => decide (64 < l.length)) = true := by
  have hx2 : xs[k] = x := by rw [← e, List.getD_eq_getElem?_getD, List.getElem?_eq_getElem h]; rfl
  rw [List.any_eq_true]
  exact ⟨wordsF x, List.mem_map.2 ⟨x, by rw [← hx2]; exact List.getElem_mem h, rfl⟩, decide_eq_true hx⟩
end Go.Proofs.YtbffebcjimhapaaDoor
namespace Go.Proofs.YtbffebcjimhapaaDoor
set_option linter.unusedVariables false
set_option linter.unusedSimpArgs false
open Go.ChangeShapes Go.WideShapes Go.ChangeAt Go.RowKit

def rdA (s : ByteArray) : Array Value := (Value.string s :: .int .i64 0 :: (kindsA.toList ++ [.slice none 0 0, .slice none 0 0])).toArray
theorem wpList_build2 {P : Program} {ops : Array Oper} {Q : Exit → Act → World → Prop} {w : World} {rest : List Oper} {o : Oper} {a : Act} (hg : o.guard = none) (t : TypeId) (i j : Nat) (x y : Operand) (ho : o.op = .build t #[(i, x), (j, y)]) (vx vy : Value) (hx : a.eval x = vx) (hy : a.eval y = vy) (cs : Array Value)
    (hf : P.built t [(i, vx), (j, vy)] = some cs) (h : wpList P ops Q rest (a.put o.dst (.agg cs)) w) : wpList P ops Q (o :: rest) a w := by
  have e : ((#[(i, x), (j, y)] : Array (Nat × Operand)).map fun (i, x) => (i, a.eval x)).toList = [(i, vx), (j, vy)] := by simp [hx, hy]
  exact wpList_build hg t _ ho (by rw [e, hf]; rfl) (by rw [e, hf]; exact h)
theorem rd_built (s : ByteArray) : Tryd.prog.built 69 [(0, .string s), (2, .agg kindsA)] = some (rdA s) := by kernel_rfl
structure RdA (w : World) (s : ByteArray) : Prop where
  rd : Rd (w.alloc (.cells (rdA s) 69)) w.heap.size s 0 (.slice none 0 0) (.slice none 0 0)
theorem RdA.on (w : World) (s : ByteArray) : RdA w s := by
  have hb : (w.alloc (.cells (rdA s) 69)).heap[w.heap.size]? = some (.cells (rdA s) 69 (0, 0)) := heap_alloc_new w _
  have hc : ∀ i, (w.alloc (.cells (rdA s) 69)).cell? ⟨w.heap.size, i, none⟩ = (rdA s)[i]? := fun i => cell_of_row _ _ _ _ _ _ hb
  have hk : kindsA.toList = (List.range 64).map fun i => Value.int .i64 (kindN i) := rfl
  have hl : kindsA.toList.length = 64 := by rw [hk]; simp
  have hr : ∀ i, (rdA s)[i + 1 + 1]? = (kindsA.toList ++ [.slice none 0 0, .slice none 0 0])[i]? := fun i => by unfold rdA; rw [List.getElem?_toArray, List.getElem?_cons_succ, List.getElem?_cons_succ]
  refine ⟨⟨⟨_, hb⟩, (hc 0).trans rfl, (hc 1).trans rfl, fun i hi => (hc _).trans ?_, (hc 66).trans ?_, (hc 67).trans ?_⟩⟩
  · rw [show 2 + i = i + 1 + 1 by omega, hr, List.getElem?_append_left (by omega), hk, List.getElem?_map, List.getElem?_range hi]; rfl
  · rw [hr, List.getElem?_append_right (by omega), hl]; rfl
  · rw [hr, List.getElem?_append_right (by omega), hl]; rfl
set_option maxRecDepth 100000 in
theorem plines_any (s : ByteArray) (hs : s.size ≤ 20000) (w : World) : Calls Tryd.prog 11 #[.string s] w (LinesOut (linesP (toL s)) w) := by
  by_cases hbig : 16384 < s.size
  · have hq : (16384 : Int) < (s.size : Int) := by omega
    rw [show linesP (toL s) = none by unfold linesP; rw [toL_size, if_pos hbig]]
    clear hbig
    go_enter Tryd.func11, Tryd.ntmps11
    go_wp2_with fail
    go_ret2
    exact ⟨rfl, Below.refl _ _⟩
  · have hq : ¬ (16384 : Int) < (s.size : Int) := by omega
    rw [show linesP (toL s) = outR (toL s) [] [] by unfold linesP; rw [toL_size, if_neg hbig]]
    clear hbig
    go_enter Tryd.func11, Tryd.ntmps11
    go_wp2_with (first
      | (go_at_call 19; refine (kinds_any _).mono ?_; rintro e w1 ⟨rfl, hb1⟩)
      | (refine wpList_build2 rfl 69 0 2 (.tmp 8) (.tmp 9) (by rfl) (.string s) (.agg kindsA) (by rfl) (by rfl) (rdA s) (rd_built s) ?_; have d1 := (RdA.on w1 s).rd; have hlo1 := hb1.size; have hbl := Lib.hid (hb1.trans ((Below.refl _ _).alloc hlo1 (.cells (rdA s) 69)));  have HR := Lib.hid d1; clear d1)
      | (go_at_call 20; refine (run_any (lo := w.heap.size) HR.out hlo1 (by rw [World.size_alloc]; omega) hs).mono ?_; rintro e w2 ⟨p, ls, rows, rfl, hrd, hown, hrows, hbel⟩; obtain ⟨ob, HOB⟩ : ∃ ob, Hid ((outR (toL s) [] []).isSome = ob) := ⟨_, Lib.hid rfl⟩; rw [HOB.out]; have HRD := Lib.hid hrd; have HOW := Lib.hid hown; have HRW := Lib.hid hrows; have HBL := Lib.hid hbel; have c67 := hrd.lines; clear hrd hown hrows hbel))
    · have ho : ob = false := by simpa using ‹(!ob) = true›
      go_ret2
      cases hE : outR (toL s) [] [] with
      | none => exact ⟨rfl, hbl.out.trans HBL.out⟩
      | some out => have := HOB.out; rw [hE, ho] at this; cases this
    · have ho : ob = true := by simpa using ‹(!ob) = false›
      go_ret2
      cases hE : outR (toL s) [] [] with
      | none => have := HOB.out; rw [hE, ho] at this; cases this
      | some out => exact ⟨_, rows, rfl, HOW.out, HRW.out out hE, hbl.out.trans HBL.out⟩
end Go.Proofs.YtbffebcjimhapaaDoor
namespace Go.Proofs.YtbffebcjimhapaaDoor
set_option linter.unusedVariables false
set_option linter.unusedSimpArgs false
open Go.ChangeShapes Go.WideShapes Go.ChangeAt Go.RowKit Go.Lib

/-- What is to come yet. -/
def front (u : Nat) : List UInt8 := if u = 0 then [] else decDigits u
theorem front_step {u : Nat} (h : 1 ≤ u) : front u = front (u / 10) ++ [UInt8.ofNat (48 + u % 10)] := by
  unfold front
  rw [if_neg (by omega)]
  by_cases hs : u < 10
  · rw [if_pos (by omega), dec_small hs, show u % 10 = u by omega]; rfl
  · rw [if_neg (by omega), dec_big hs]

theorem add_lit0 (b o : Nat) : (⟨b, o, none⟩ : Addr).add 0 = ⟨b, o, none⟩ := by simp [Addr.add]
theorem str_cons (c : UInt8) (t : List UInt8) : (⟨[c].toArray⟩ : ByteArray) ++ ⟨t.toArray⟩ = ⟨(c :: t).toArray⟩ := by
  apply ByteArray.ext
  simp
theorem str_nil (t : List UInt8) : (⟨#[]⟩ : ByteArray) ++ ⟨t.toArray⟩ = ⟨t.toArray⟩ := by
  apply ByteArray.ext
  simp
theorem front_len {u : Nat} (h : u ≤ 9223372036854775808) : (front u).length ≤ 19 := by
  unfold front
  by_cases h0 : u = 0
  · rw [if_pos h0]; simp
  · rw [if_neg h0]
    obtain ⟨s1, s2, _⟩ := dec_spec u
    exact canon_len s1 (by rw [s2]; exact h)
theorem tail_len {u0 u : Nat} {t : List UInt8} (h : u0 ≤ 9223372036854775808) (hf : front u0 = front u ++ t) : t.length ≤ 19 := by
  have h1 := front_len h
  rw [hf, List.length_append] at h1
  omega

def dgc (u : Nat) : UInt8 := UInt8.ofNat (48 + u % 10)
theorem digit_cell (wr : World) (u : Nat) : (convert 44 9 (.slice (some ⟨wr.heap.size, 0, none⟩) 1 1)).run Tryd.prog (wr.alloc (.cells #[.int .u8 (48 + (u : Int) % 10)] 5)) =
    .ok (.string ⟨[dgc u].toArray⟩) (wr.alloc (.cells #[.int .u8 (48 + (u : Int) % 10)] 5)) := by
  refine run_convert_bytes_back (P := Tryd.prog) _ 44 9 5 ⟨wr.heap.size, 0, none⟩ 1 [dgc u] Tryd.underlying44 Tryd.underlying5 Tryd.underlying9 ?_
  intro j hj
  have hj0 : j = 0 := by simp at hj; omega
  subst hj0
  rw [add_lit0]
  rw [(Blk.new wr 5 #[.int .u8 (48 + (u : Int) % 10)]).cells 0]
  show some (Value.int .u8 (48 + (u : Int) % 10)) = some (Value.int .u8 ((dgc u).toNat : Int))
  unfold dgc
  rw [toNat_digit (u := u % 10) (by omega)]
  congr 2

theorem tmod_neg (u : Nat) : (-(u : Int)).tmod 10 = -((u : Int) % 10) := by rw [Int.neg_tmod, Int.tmod_eq_emod_of_nonneg (by omega)]
theorem tdiv_neg' (u : Nat) : (-(u : Int)).tdiv 10 = -((u : Int) / 10) := by rw [Int.neg_tdiv, Int.tdiv_eq_ediv_of_nonneg (by omega)]
theorem digit_zero (wr : World) (u : Nat) (h : u % 10 = 0) : (convert 44 9 (.slice (some ⟨wr.heap.size, 0, none⟩) 1 1)).run Tryd.prog (wr.alloc (.cells #[.int .u8 48] 5)) =
    .ok (.string ⟨[dgc u].toArray⟩) (wr.alloc (.cells #[.int .u8 48] 5)) := by
  have := digit_cell wr u
  rw [show (48 + (u : Int) % 10) = 48 by omega] at this
  exact this
theorem str_minus (t : List UInt8) : (⟨#[45]⟩ : ByteArray) ++ ⟨t.toArray⟩ = ⟨(45 :: t).toArray⟩ := by
  apply ByteArray.ext
  simp

def from_ (s : ByteArray) (a j : Nat) : List UInt8 := (pre s j).drop a
theorem from_succ (s : ByteArray) (a j : Nat) (ha : a ≤ j) (h : j < s.size) : from_ s a (j + 1) = from_ s a j ++ [s[j]] := by
  unfold from_
  rw [pre_succ s j h, List.drop_append_of_le_length (by rw [pre_len s j (by omega)]; exact ha)]
theorem from_len (s : ByteArray) (a j : Nat) (h : j ≤ s.size) : (from_ s a j).length = j - a := by unfold from_; rw [List.length_drop, pre_len s j h]
theorem from_all (s : ByteArray) (a : Nat) : from_ s a s.size = s.data.toList.drop a := by unfold from_; rw [pre_all]
theorem rdigit_step (s : ByteArray) (a j : Nat) (ha : a ≤ j) (h : j < s.size) (hs : s.size - a ≤ 19) (hd : AllDig (from_ s a j)) (h1 : 48 ≤ s[j].toNat) (h2 : s[j].toNat ≤ 57) :
    IntKind.u64.wrap (IntKind.u64.wrap (IntKind.u64.wrap (10 * (valD (from_ s a j) : Int)) + (s[j].toNat : Int)) - 48) = (valD (from_ s a (j + 1)) : Nat) := by
  have hv := valD_lt (j - a) (from_ s a j) (from_len s a j (by omega)) hd
  have hp : (10 : Nat) ^ (j - a) ≤ 10 ^ 18 := Nat.pow_le_pow_right (by omega) (by omega)
  have e1 : IntKind.u64.wrap (10 * (valD (from_ s a j) : Int)) = 10 * (valD (from_ s a j) : Int) := IntWalk.u64_in _ ⟨by omega, by omega⟩
  have e2 : IntKind.u64.wrap (10 * (valD (from_ s a j) : Int) + (s[j].toNat : Int)) = 10 * (valD (from_ s a j) : Int) + (s[j].toNat : Int) := IntWalk.u64_in _ ⟨by omega, by omega⟩
  rw [from_succ s a j ha h, valD_snoc, e1, e2, IntWalk.u64_in _ ⟨by omega, by omega⟩]
  unfold dv
  omega

/-- What stands behind the digits: nothing, where a byte is none; else the number that they tell. -/
def rnum (neg : Bool) (x : Nat) : Int := if neg then wrap64 (-wrap64 (x : Int)) else wrap64 (x : Int)

end Go.Proofs.YtbffebcjimhapaaDoor
namespace Go.Proofs.YtbffebcjimhapaaDoor
set_option linter.unusedVariables false
set_option linter.unusedSimpArgs false
open Go.ChangeShapes Go.WideShapes Go.ChangeAt Go.RowKit Go.Lib

/-- What is to be shown of the reader behind its first tests: no digits: nothing; digits: the number, if it is written so. -/
def NoOf (s : ByteArray) (a : Nat) (n er : Int) : Prop := ¬ AllDig (from_ s a s.size) → n = 0 ∧ er = 10
def YesOf (s : ByteArray) (a : Nat) (neg : Bool) (n er : Int) : Prop := AllDig (from_ s a s.size) → (itoa (rnum neg (valD (from_ s a s.size))) = s.toList → n = rnum neg (valD (from_ s a s.size)) ∧ er = 0) ∧ (itoa (rnum neg (valD (from_ s a s.size))) ≠ s.toList → n = 0 ∧ er = 10)
theorem two_eq {n er n' er' : Int} (h : n = n' ∧ er = er') : Ending.returned (.tuple #[.int .i64 n', .int .i64 er']) = .returned (.tuple #[.int .i64 n, .int .i64 er]) := by rw [h.1, h.2]
theorem not_dig {s : ByteArray} {a j : Nat} (ha : a ≤ j) (h : j < s.size) (hc : s[j].toNat < 48 ∨ 57 < s[j].toNat) : ¬ AllDig (from_ s a s.size) := fun hd => by
  have hm : s[j] ∈ from_ s a s.size := by
    rw [from_all]
    have e : s[j] = (s.data.toList.drop a)[j - a]'(by simp; omega) := by
      rw [List.getElem_drop]
      have : a + (j - a) = j := by omega
      simp only [this]; rfl
    rw [e]; exact List.getElem_mem _
  have := hd _ hm
  unfold Dig at this
  omega
theorem rnum_false (x : Nat) : rnum false x = wrap64 (x : Int) := by unfold rnum; rw [if_neg (by decide)]
theorem rnum_true (x : Nat) : rnum true x = wrap64 (-wrap64 (x : Int)) := by unfold rnum; rw [if_pos rfl]
theorem from_nil (s : ByteArray) (a : Nat) : from_ s a a = [] := by
  unfold from_ pre
  exact List.drop_eq_nil_of_le (by rw [List.length_take]; omega)
theorem wrap_in (x : Int) : In64n (wrap64 x) := by unfold In64n wrap64; omega

end Go.Proofs.YtbffebcjimhapaaDoor
namespace Go.Proofs.YtbffebcjimhapaaDoor
set_option linter.unusedVariables false
set_option linter.unusedSimpArgs false
open Go.ChangeShapes Go.WideShapes Go.ChangeAt Go.RowKit Go.Lib

def smE (n er most : Int) : Int := if most < 0 ∨ 1000000 < most then 2 else if er ≠ 0 ∨ n < 0 ∨ most < n then 10 else 0
def smV (n er most : Int) : Int := if most < 0 ∨ 1000000 < most then 0 else if er ≠ 0 ∨ n < 0 ∨ most < n then 0 else n
theorem sm_arg {n er most : Int} (h : most < 0 ∨ 1000000 < most) : smV n er most = 0 ∧ smE n er most = 2 := by unfold smV smE; rw [if_pos h, if_pos h]; exact ⟨rfl, rfl⟩
theorem sm_bad {n er most : Int} (h : ¬ (most < 0 ∨ 1000000 < most)) (h' : er ≠ 0 ∨ n < 0 ∨ most < n) : smV n er most = 0 ∧ smE n er most = 10 := by unfold smV smE; rw [if_neg h, if_pos h', if_neg h, if_pos h']; exact ⟨rfl, rfl⟩
theorem sm_well {n er most : Int} (h : ¬ (most < 0 ∨ 1000000 < most)) (h' : ¬ (er ≠ 0 ∨ n < 0 ∨ most < n)) : smV n er most = n ∧ smE n er most = 0 := by unfold smV smE; rw [if_neg h, if_neg h', if_neg h, if_neg h']; exact ⟨rfl, rfl⟩

theorem small_is (s : ByteArray) (n er most : Int) (ht : Told s.data.toList n er) (w : World) :
    Calls Tryd.prog 74 #[.string s, .int .i64 most] w fun e w' => e = .returned (.tuple #[.int .i64 (smV n er most), .int .i64 (smE n er most)]) ∧ Below w.heap.size w w' := by
  have HT := Lib.hid ht
  have her : er = 0 ∨ er = 10 := by rcases ht with ⟨h, _⟩ | ⟨h, _, _⟩ <;> omega
  clear ht
  by_cases ha : most < 0 ∨ 1000000 < most
  · have H := Lib.hid (sm_arg (n := n) (er := er) ha)
    rcases ha with ha | ha
    · go_enter Tryd.func74, Tryd.ntmps74
      go_wp2
      go_ret2
      exact ⟨two_eq H.out, Below.refl _ _⟩
    · go_enter Tryd.func74, Tryd.ntmps74
      go_wp2
      go_ret2
      exact ⟨two_eq H.out, Below.refl _ _⟩
  have q1 : 0 ≤ most := by omega
  have q2 : most ≤ 1000000 := by omega
  rcases her with rfl | rfl
  · by_cases h1 : n < 0
    · have H := Lib.hid (sm_bad (er := 0) ha (.inr (.inl h1)))
      clear ha
      go_enter Tryd.func74, Tryd.ntmps74
      go_wp2_with fail
      refine (read_is s _ _ HT.out _).mono ?_
      rintro e w1 ⟨rfl, hb1⟩
      go_wp2_with fail
      go_ret2
      exact ⟨two_eq H.out, hb1⟩
    by_cases h2 : most < n
    · have H := Lib.hid (sm_bad (er := 0) ha (.inr (.inr h2)))
      clear ha
      go_enter Tryd.func74, Tryd.ntmps74
      go_wp2_with fail
      refine (read_is s _ _ HT.out _).mono ?_
      rintro e w1 ⟨rfl, hb1⟩
      go_wp2_with fail
      go_ret2
      exact ⟨two_eq H.out, hb1⟩
    have H := Lib.hid (sm_well (er := 0) (n := n) ha (by omega))
    clear ha
    go_enter Tryd.func74, Tryd.ntmps74
    go_wp2_with fail
    refine (read_is s _ _ HT.out _).mono ?_
    rintro e w1 ⟨rfl, hb1⟩
    go_wp2_with fail
    go_ret2
    exact ⟨two_eq H.out, hb1⟩
  · have H := Lib.hid (sm_bad (er := 10) (n := n) ha (.inl (by decide)))
    clear ha
    go_enter Tryd.func74, Tryd.ntmps74
    go_wp2_with fail
    refine (read_is s _ _ HT.out _).mono ?_
    rintro e w1 ⟨rfl, hb1⟩
    go_wp2_with fail
    go_ret2
    exact ⟨two_eq H.out, hb1⟩

end Go.Proofs.YtbffebcjimhapaaDoor
namespace Go.Proofs.YtbffebcjimhapaaDoor
set_option linter.unusedVariables false
set_option linter.unusedSimpArgs false
open Go.ChangeShapes Go.WideShapes Go.ChangeAt Go.RowKit Go.Lib

theorem firstc_eq {s : ByteArray} {c : UInt8} (h : 1 ≤ s.size) : (s.extract 0 1).toList = [c] ↔ s.data.toList.head? = some c := by
  rw [ByteArray.toList_eq, extract_data]
  have hl : s.data.toList.length = s.size := by simp
  generalize s.data.toList = l at *
  cases l with
  | nil => simp at hl; omega
  | cons a l => simp
theorem cutc_is (s : ByteArray) (c : UInt8) (w : World) :
    Calls Tryd.prog 30 #[.string s, .string ⟨#[c]⟩] w fun e w' => e = .returned (.tuple #[.string (if s.data.toList.head? = some c then s.extract 1 s.size else s), .bool (decide (s.data.toList.head? = some c))]) ∧ w = w' := by
  by_cases h2 : s.data.toList.head? = some c
  · have h1 : 1 ≤ s.size := by
      rcases Nat.eq_zero_or_pos s.size with h0 | h0
      · have : s.data.toList = [] := List.eq_nil_of_length_eq_zero (by simpa using h0)
        rw [this] at h2; cases h2
      · exact h0
    rw [if_pos h2, decide_eq_true h2]
    have hb : ((s.extract 0 1).toList == [c]) = true := by rw [(firstc_eq h1).2 h2]; simp
    have q1 : (1 : Int) ≤ s.size := by omega
    clear h2
    go_enter Tryd.func30, Tryd.ntmps30
    go_wp2
    go_ret2
    exact ⟨rfl, rfl⟩
  · rw [if_neg h2, decide_eq_false h2]
    by_cases h0 : s.size = 0
    · have q1 : (s.size : Int) < 1 := by omega
      clear h2
      go_enter Tryd.func30, Tryd.ntmps30
      go_wp2
      go_ret2
      exact ⟨rfl, rfl⟩
    · have h1 : 1 ≤ s.size := by omega
      have hb : ((s.extract 0 1).toList == [c]) = false := beq_eq_false_iff_ne.2 fun e => h2 ((firstc_eq h1).1 e)
      have q1 : (1 : Int) ≤ s.size := by omega
      clear h2 h0
      go_enter Tryd.func30, Tryd.ntmps30
      go_wp2
      go_ret2
      exact ⟨rfl, rfl⟩
theorem byte_cell (wr : World) (c : UInt8) : (convert 44 9 (.slice (some ⟨wr.heap.size, 0, none⟩) 1 1)).run Tryd.prog (wr.alloc (.cells #[.int .u8 (c.toNat : Int)] 5)) =
    .ok (.string ⟨#[c]⟩) (wr.alloc (.cells #[.int .u8 (c.toNat : Int)] 5)) := by
  refine run_convert_bytes_back (P := Tryd.prog) _ 44 9 5 ⟨wr.heap.size, 0, none⟩ 1 [c] Tryd.underlying44 Tryd.underlying5 Tryd.underlying9 ?_
  intro j hj
  have hj0 : j = 0 := by simp at hj; omega
  subst hj0
  rw [add_lit0]
  rw [(Blk.new wr 5 #[.int .u8 (c.toNat : Int)]).cells 0]
  rfl
theorem sm_zero {n er : Int} (h : smE n er 999 ≠ 0) : smV n er 999 = 0 ∧ smE n er 999 = 10 := by
  have hq : ¬ ((999 : Int) < 0 ∨ (1000000 : Int) < 999) := by omega
  by_cases h2 : er ≠ 0 ∨ n < 0 ∨ 999 < n
  · exact sm_bad hq h2
  · exact absurd (sm_well hq h2).2 h
theorem size_of_head {s : ByteArray} {c : UInt8} (h : s.data.toList.head? = some c) : ∃ h1 : 0 < s.size, s[0]'h1 = c := by
  have h1 : 0 < s.size := by
    rcases Nat.eq_zero_or_pos s.size with h0 | h0
    · have : s.data.toList = [] := List.eq_nil_of_length_eq_zero (by simpa using h0)
      rw [this] at h; cases h
    · exact h0
  refine ⟨h1, ?_⟩
  have h2 : s.data.toList.head? = some (s[0]'h1) := by
    rw [List.head?_eq_getElem?, Array.getElem?_toList]
    exact Array.getElem?_eq_getElem h1
  rw [h2] at h
  exact Option.some.inj h
/-- The number of a mark, or the error. -/
def markOf (s : Bs) (c : UInt8) (n er : Int) : Int × Int := if s.head? = some c then (smV n er 999, smE n er 999) else (0, 10)
theorem pmark_any (s : ByteArray) (c : UInt8) (n er : Int) (ht : Told (s.data.toList.drop 1) n er) (w : World) :
    Calls Tryd.prog 73 #[.string s, .int .u8 (c.toNat : Int)] w fun e w' => e = .returned (.tuple #[.int .i64 (markOf s.data.toList c n er).1, .int .i64 (markOf s.data.toList c n er).2]) ∧ Below w.heap.size w w' := by
  have HT := Lib.hid ht
  clear ht
  have hB := byte_cell
  unfold markOf
  by_cases h : s.data.toList.head? = some c
  · rw [if_pos h]
    have HH := Lib.hid h
    have HC := Lib.hid (show (if s.data.toList.head? = some c then s.extract 1 s.size else s) = s.extract 1 s.size from if_pos h)
    have HE : Hid (Told (s.extract 1 s.size).data.toList n er) := Lib.hid (by
      rw [extract_data, List.take_of_length_le (by simp)]; exact HT.out)
    clear h
    go_enter Tryd.func73, Tryd.ntmps73
    go_wp2_with (first
      | (go_at_call 30; refine (cutc_is s c _).mono ?_; rintro e w1 ⟨rfl, rfl⟩; rw [HC.out, decide_eq_true HH.out])
      | (go_at_call 74; refine (small_is _ n er 999 HE.out _).mono ?_; rintro e w1 ⟨rfl, hb1⟩))
    go_ret2
    exact ⟨rfl, ((Below.refl _ _).alloc (Nat.le_refl _) _).trans (hb1.mono (by rw [World.size_alloc]; omega))⟩
  · rw [if_neg h]
    have HH := Lib.hid h
    have HC := Lib.hid (show (if s.data.toList.head? = some c then s.extract 1 s.size else s) = s from if_neg h)
    clear h
    go_enter Tryd.func73, Tryd.ntmps73
    go_wp2_with (first
      | (go_at_call 30; refine (cutc_is s c _).mono ?_; rintro e w1 ⟨rfl, rfl⟩; rw [HC.out, decide_eq_false HH.out]))
    go_ret2
    exact ⟨rfl, (Below.refl _ _).alloc (Nat.le_refl _) _⟩
end Go.Proofs.YtbffebcjimhapaaDoor
namespace Go.Proofs.YtbffebcjimhapaaDoor
set_option linter.unusedVariables false
set_option linter.unusedSimpArgs false
open Go.ChangeShapes Go.WideShapes Go.ChangeAt Go.RowKit

/-- A world turned at one block, and at no other. -/
structure Tn (g : Nat) (w w' : World) : Prop where
  os : w'.os = w.os
  tape : w'.tape = w.tape
  output : w'.output = w.output
  size : w.heap.size ≤ w'.heap.size
  block : ∀ k, k < w.heap.size → k ≠ g → w'.heap[k]? = w.heap[k]?
section
variable {g : Nat} {w w' w2 : World}
theorem Tn.of (h : Below w.heap.size w w') : Tn g w w' := ⟨h.os, h.tape, h.output, h.size, fun k hk _ => h.block k hk⟩
theorem Tn.refl (g : Nat) (w : World) : Tn g w w := Tn.of (Below.refl _ _)
theorem Tn.trans (h : Tn g w w') (h' : Tn g w' w2) : Tn g w w2 := ⟨h'.os.trans h.os, h'.tape.trans h.tape, h'.output.trans h.output, Nat.le_trans h.size h'.size, fun k hk hn => (h'.block k (Nat.lt_of_lt_of_le hk h.size) hn).trans (h.block k hk hn)⟩
theorem Tn.on (h : Tn g w w') (h' : Below w'.heap.size w' w2) : Tn g w w2 := h.trans (Tn.of h')
theorem Tn.set (w : World) (j : Nat) (u : Value) : Tn g w (w.setCell ⟨g, j, none⟩ u) := ⟨rfl, rfl, rfl, by rw [size_set]; exact Nat.le_refl _, fun k hk hn => Below.heap_setCell w _ u k hn⟩
theorem Tn.put (h : Tn g w w') (j : Nat) (u : Value) : Tn g w (w'.setCell ⟨g, j, none⟩ u) := h.trans (Tn.set w' j u)
/-- Below what was there ahead of the block. -/
theorem Tn.below (h : Tn g w w') {B : Nat} (hB : B ≤ w.heap.size) (hg : B ≤ g) : Below B w w' := ⟨h.os, h.tape, h.output, h.size, fun k hk => h.block k (Nat.lt_of_lt_of_le hk hB) (by omega)⟩
theorem Tn.spare (h : Tn g w w') {t : TypeId} {cs : Array Value} (hg : Blk w g t cs) : Spare t w w' := ⟨h.size, fun k cs' e fr hk hne => (h.block k (Array.getElem?_eq_some_iff.1 hk).1 (fun e' => by
  have h' : w.heap[g]? = some (.cells cs t (0, 0)) := hg
  rw [e', h'] at hk
  injection hk with hk
  injection hk with _ ht _
  exact hne ht.symm)).trans hk⟩
theorem Tn.blk (h : Tn g w w') {k : Nat} {t : TypeId} {cs : Array Value} (hb : Blk w k t cs) (hn : k ≠ g) : Blk w' k t cs := (h.block k hb.lt hn).trans hb
end
section
variable {t : TypeId} {w w' : World}
theorem TBlk.spare {g : Nat} {e : TypeId} (h : TBlk w g e) (hs : Spare t w w') (hne : e ≠ t) : TBlk w' g e := by
  obtain ⟨cur, h⟩ := h
  exact ⟨cur, hs.block _ _ _ _ h hne⟩
/-- A slice's cells, in a block of one type. -/
theorem CellsAt.spare {A : Option Addr} {size n : Nat} {f : Nat → Nat → Value} {e : TypeId} (h : CellsAt w 0 w.heap.size A size n f) (hb : 0 < n → ∃ b o, A = some ⟨b, o, none⟩ ∧ TBlk w b e) (hs : Spare t w w') (hne : e ≠ t) : CellsAt w' 0 w'.heap.size A size n f := fun hn => by
  obtain ⟨b, off, e1, l1, l2, hc⟩ := h hn
  obtain ⟨b', o', e', cur, ht⟩ := hb hn
  rw [e1] at e'
  injection e' with e'
  injection e' with e' _ _
  subst e'
  have hk : w'.heap[b]? = w.heap[b]? := (hs.block _ _ _ _ ht hne).trans ht.symm
  exact ⟨b, off, e1, l1, Nat.lt_of_lt_of_le l2 hs.size, fun i hi j hj => by rw [World.cell?_of_block hk]; exact hc i hi j hj⟩
theorem LnR.Ok.spare {r : LnR} (h : r.Ok w) (hs : Spare t w w') (hne : 9 ≠ t) : r.Ok w' := ⟨⟨h.at_.hdr, CellsAt.spare h.at_.strs h.blk hs hne⟩, fun hn => by
  obtain ⟨b, o, e, ht⟩ := h.blk hn
  exact ⟨b, o, e, ht.spare hs hne⟩⟩
end
/-- Lines, as they lie. -/
structure LsR where
  a : Option Addr
  c : Nat
  rows : List LnR
def LsR.val (l : LsR) : Value := .slice l.a l.rows.length l.c
def LsR.data (l : LsR) : List (List Bs) := l.rows.map LnR.data
structure LsR.Ok (w : World) (l : LsR) : Prop where
  hdr : Hdr l.a l.rows.length l.c
  cells : CellsAt w 0 w.heap.size l.a 1 l.rows.length fun i _ => (l.rows.getD i default).cell
  blk : 0 < l.rows.length → ∃ b o, l.a = some ⟨b, o, none⟩ ∧ TBlk w b 51
  ok : ∀ r ∈ l.rows, r.Ok w
def up1 : Option Addr → Option Addr
  | some a => some ⟨a.block, a.off + 1, a.spot⟩
  | none => none
def LsR.rest (l : LsR) : LsR := ⟨if l.c = 1 then l.a else up1 l.a, l.c - 1, l.rows.drop 1⟩
def LnR.rest (x : LnR) : LnR := ⟨if x.c = 1 then x.a else up1 x.a, x.c - 1, x.xs.drop 1⟩
section
variable {t : TypeId} {w w' : World}
theorem LsR.Ok.spare {l : LsR} (h : l.Ok w) (hs : Spare t w w') (h1 : 9 ≠ t) (h2 : 51 ≠ t) : l.Ok w' := ⟨h.hdr, CellsAt.spare h.cells h.blk hs h2, fun hn => by
  obtain ⟨b, o, e, ht⟩ := h.blk hn
  exact ⟨b, o, e, ht.spare hs h2⟩, fun r hr => (h.ok r hr).spare hs h1⟩
theorem LsR.Ok.on {l : LsR} (h : l.Ok w) (hb : Below w.heap.size w w') : l.Ok w' := ⟨h.hdr, (CellsAt.keep h.cells hb).more (Nat.le_refl _) hb.size, fun hn => by
  obtain ⟨b, o, e, ht⟩ := h.blk hn
  exact ⟨b, o, e, ht.beneath hb⟩, fun r hr => (h.ok r hr).on hb⟩
theorem OwnLines.ls {lo : Nat} {A : Option Addr} {c : Nat} {rows : List LnR} (h : OwnLines w lo (.slice A rows.length c) rows) : LsR.Ok w ⟨A, c, rows⟩ := by
  obtain ⟨A', c', hv, hl⟩ := h.full
  injection hv with e1 _ e3
  subst e1 e3
  refine ⟨hl.hdr, hl.cells, fun hn => ?_, h.ok⟩
  rcases h.row.2 with ⟨_, h0⟩ | ⟨g, cap, cur, hv2, _, hg, _⟩
  · have : 0 < rows.length := hn
    omega
  · injection hv2 with hv2 _ _
    exact ⟨g, 0, hv2, cur, hg⟩
theorem LsR.Ok.first {l : LsR} (h : l.Ok w) (hn : 0 < l.rows.length) : ∃ b off r, l.a = some ⟨b, off, none⟩ ∧ b < w.heap.size ∧ w.cell? ⟨b, off, none⟩ = some (.slice r.a r.xs.length r.c) ∧ LnR.Ok w r ∧ l.rows = r :: l.rest.rows ∧ l.rest = ⟨if l.c = 1 then some ⟨b, off, none⟩ else some ⟨b, off + 1, none⟩, l.c - 1, l.rest.rows⟩ := by
  obtain ⟨b, off, e, h1, h2, hc⟩ := h.cells hn
  have c0 := hc 0 hn 0 (by omega)
  rw [Nat.zero_mul, Nat.add_zero] at c0
  obtain ⟨A, c, rows⟩ := l
  cases rows with
  | nil => exact absurd hn (Nat.lt_irrefl _)
  | cons r rows =>
    have e' : A = some ⟨b, off, none⟩ := e
    subst e'
    exact ⟨b, off, r, rfl, h2, c0, h.ok r (List.mem_cons_self ..), rfl, rfl⟩
theorem LnR.Ok.first {x : LnR} (h : x.Ok w) (hn : 0 < x.xs.length) : ∃ b off s, x.a = some ⟨b, off, none⟩ ∧ b < w.heap.size ∧ w.cell? ⟨b, off, none⟩ = some (.string s) ∧ x.xs = s :: x.rest.xs ∧ x.rest = ⟨if x.c = 1 then some ⟨b, off, none⟩ else some ⟨b, off + 1, none⟩, x.c - 1, x.rest.xs⟩ := by
  obtain ⟨b, off, e, h1, h2, hc⟩ := h.at_.strs hn
  have c0 := hc 0 hn 0 (by omega)
  rw [Nat.zero_mul, Nat.add_zero] at c0
  obtain ⟨A, c, xs⟩ := x
  cases xs with
  | nil => exact absurd hn (Nat.lt_irrefl _)
  | cons s xs =>
    have e' : A = some ⟨b, off, none⟩ := e
    subst e'
    exact ⟨b, off, s, rfl, h2, c0, rfl, rfl⟩
theorem LsR.Ok.rest {l : LsR} (h : l.Ok w) (hn : 0 < l.rows.length) : l.rest.Ok w := by
  obtain ⟨hd, hc, hb, hk⟩ := h
  obtain ⟨b, off, e, h1, h2, hc⟩ := hc hn
  obtain ⟨b', o', e', ht⟩ := hb hn
  rw [e] at e'
  injection e' with e'
  injection e' with e' _ _
  subst e'
  obtain ⟨A, c, rows⟩ := l
  have e' : A = some ⟨b, off, none⟩ := e
  subst e'
  have hf : rows.length ≤ c := hd.fit
  have hcap : c ≤ maxLen := hd.cap
  have hA : 0 < (rows.drop 1).length → (LsR.rest ⟨some ⟨b, off, none⟩, c, rows⟩).a = some ⟨b, off + 1, none⟩ := fun hp => by
    rw [List.length_drop] at hp
    exact if_neg (show ¬ c = 1 by omega)
  refine ⟨⟨?_, ?_, fun h => by unfold LsR.rest at h; dsimp only at h; split at h <;> cases h⟩, fun hn' => ⟨b, off + 1, hA hn', h1, h2, fun i hi j hj => ?_⟩, fun hn' => ⟨b, off + 1, hA hn', ht⟩, fun r hr => hk r (List.mem_of_mem_drop hr)⟩
  · show (rows.drop 1).length ≤ c - 1
    rw [List.length_drop]; omega
  · show c - 1 ≤ maxLen
    omega
  · have hi' : i < (rows.drop 1).length := hi
    rw [List.length_drop] at hi'
    have := hc (i + 1) (by show i + 1 < rows.length; omega) j hj
    rw [show off + (i + 1) * 1 + j = off + 1 + i * 1 + j by omega] at this
    rw [this]
    show some ((rows.getD (i + 1) default).cell) = some (((rows.drop 1).getD i default).cell)
    rw [List.getD_eq_getElem?_getD, List.getD_eq_getElem?_getD, List.getElem?_drop, Nat.add_comm 1 i]
theorem LnR.Ok.rest {x : LnR} (h : x.Ok w) (hn : 0 < x.xs.length) : x.rest.Ok w := by
  obtain ⟨⟨hd, hc⟩, hb⟩ := h
  obtain ⟨b, off, e, h1, h2, hc⟩ := hc hn
  obtain ⟨b', o', e', ht⟩ := hb hn
  rw [e] at e'
  injection e' with e'
  injection e' with e' _ _
  subst e'
  obtain ⟨A, c, xs⟩ := x
  have e' : A = some ⟨b, off, none⟩ := e
  subst e'
  have hf : xs.length ≤ c := hd.fit
  have hcap : c ≤ maxLen := hd.cap
  have hA : 0 < (xs.drop 1).length → (LnR.rest ⟨some ⟨b, off, none⟩, c, xs⟩).a = some ⟨b, off + 1, none⟩ := fun hp => by
    rw [List.length_drop] at hp
    exact if_neg (show ¬ c = 1 by omega)
  refine ⟨⟨⟨?_, ?_, fun h => by unfold LnR.rest at h; dsimp only at h; split at h <;> cases h⟩, fun hn' => ⟨b, off + 1, hA hn', h1, h2, fun i hi j hj => ?_⟩⟩, fun hn' => ⟨b, off + 1, hA hn', ht⟩⟩
  · show (xs.drop 1).length ≤ c - 1
    rw [List.length_drop]; omega
  · show c - 1 ≤ maxLen
    omega
  · have hi' : i < (xs.drop 1).length := hi
    rw [List.length_drop] at hi'
    have := hc (i + 1) (by show i + 1 < xs.length; omega) j hj
    rw [show off + (i + 1) * 1 + j = off + 1 + i * 1 + j by omega] at this
    rw [this]
    show some (Value.string (xs.getD (i + 1) ⟨#[]⟩)) = some (Value.string ((xs.drop 1).getD i ⟨#[]⟩))
    rw [List.getD_eq_getElem?_getD, List.getD_eq_getElem?_getD, List.getElem?_drop, Nat.add_comm 1 i]
end
/-- The reader at block g: lines to come, words to come, types, functions. -/
structure Rdr (w : World) (g : Nat) (l : LsR) (x : LnR) (tv fv : Value) : Prop where
  blk : Blk w g 63 #[.slice l.a l.rows.length l.c, .slice x.a x.xs.length x.c, tv, fv]
  lines : l.Ok w
  words : x.Ok w
section
variable {g : Nat} {w w' : World} {l : LsR} {x : LnR} {tv fv : Value}
theorem Rdr.on (h : Rdr w g l x tv fv) (hb : Below w.heap.size w w') : Rdr w' g l x tv fv := ⟨h.blk.beneath hb, h.lines.on hb, h.words.on hb⟩
theorem Rdr.spare (h : Rdr w g l x tv fv) {t : TypeId} (hs : Spare t w w') (h1 : 9 ≠ t) (h2 : 51 ≠ t) (h3 : 63 ≠ t) : Rdr w' g l x tv fv := ⟨hs.block _ _ _ _ h.blk h3, h.lines.spare hs h1 h2, h.words.spare hs h1⟩
/-- A word taken. -/
theorem Rdr.took (h : Rdr w g l x tv fv) (hn : 0 < x.xs.length) : Rdr (w.setCell ⟨g, 1, none⟩ (.slice x.rest.a x.rest.xs.length x.rest.c)) g l x.rest tv fv := by
  have hs : Spare 63 w (w.setCell ⟨g, 1, none⟩ (.slice x.rest.a x.rest.xs.length x.rest.c)) := Spare.set h.blk _
  exact ⟨h.blk.put 1 _, h.lines.spare hs (by decide) (by decide), (h.words.rest hn).spare hs (by decide)⟩
/-- The next line. -/
theorem Rdr.turned (h : Rdr w g l x tv fv) {r : LnR} (hr : l.rows = r :: l.rest.rows) : Rdr ((w.setCell ⟨g, 1, none⟩ (.slice r.a r.xs.length r.c)).setCell ⟨g, 0, none⟩ (.slice l.rest.a l.rest.rows.length l.rest.c)) g l.rest r tv fv := by
  have hs : Spare 63 w (w.setCell ⟨g, 1, none⟩ (.slice r.a r.xs.length r.c)) := Spare.set h.blk _
  have h1 := h.blk.put 1 (.slice r.a r.xs.length r.c)
  have hs2 : Spare 63 _ ((w.setCell ⟨g, 1, none⟩ (.slice r.a r.xs.length r.c)).setCell ⟨g, 0, none⟩ (.slice l.rest.a l.rest.rows.length l.rest.c)) := Spare.set h1 _
  have hs3 := hs.trans hs2
  have hn : 0 < l.rows.length := by rw [hr]; exact Nat.succ_pos _
  exact ⟨h1.put 0 _, (h.lines.rest hn).spare hs3 (by decide) (by decide), (h.lines.ok r (by rw [hr]; exact List.mem_cons_self ..)).spare hs3 (by decide)⟩
theorem Rdr.types (h : Rdr w g l x tv fv) (u : Value) : Rdr (w.setCell ⟨g, 2, none⟩ u) g l x u fv := by
  have hs : Spare 63 w (w.setCell ⟨g, 2, none⟩ u) := Spare.set h.blk _
  exact ⟨h.blk.put 2 _, h.lines.spare hs (by decide) (by decide), h.words.spare hs (by decide)⟩
theorem Rdr.funs (h : Rdr w g l x tv fv) (u : Value) : Rdr (w.setCell ⟨g, 3, none⟩ u) g l x tv u := by
  have hs : Spare 63 w (w.setCell ⟨g, 3, none⟩ u) := Spare.set h.blk _
  exact ⟨h.blk.put 3 _, h.lines.spare hs (by decide) (by decide), h.words.spare hs (by decide)⟩
end
/-- What goes out where a text is no program's. -/
@[reducible] def giveUp : Ending := .panicked [{ v := .iface 58 (.agg #[]), recovered := false }]
/-- No line is empty, and no word. -/
def FullW (x : LnR) : Prop := ∀ s ∈ x.xs, 0 < s.size
def FullL (l : LsR) : Prop := ∀ r ∈ l.rows, 0 < r.xs.length ∧ FullW r
end Go.Proofs.YtbffebcjimhapaaDoor
