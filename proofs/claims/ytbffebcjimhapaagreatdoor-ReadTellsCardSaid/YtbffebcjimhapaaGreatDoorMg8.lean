/-
  Plain law of lines and words: to read on from a place gives what the reference's cuts give. No program in sight. And what stands on it: LexData, LexLines.
-/
import Derived.Test.YtbffebcjimhapaaGreatDoorMg7
import Derived.WalkKit
import Derived.OwnWalk
import Derived.Laws.OwnMore
import Derived.Outline
import Derived.BigQuiet
import Derived.Deep.QuietTactic
namespace Go.Proofs.YtbffebcjimhapaaGreatDoor
set_option linter.unusedVariables false
set_option linter.unusedSimpArgs false
abbrev Bs := List UInt8
def isBlank (c : UInt8) : Bool := c == 32 || c == 9 || c == 13
def isPlain (c : UInt8) : Bool := !(isBlank c || c == 10 || c == 35)
def cutB (x : UInt8) : Bs → List Bs
 | [] => [[]]
 | c :: t => if c = x then [] :: cutB x t else (c :: (cutB x t).headD []) :: (cutB x t).drop 1
def spaced (l : Bs) : Bs := l.map fun c => if c = 9 ∨ c = 13 then 32 else c
def wordsR (l : Bs) : List Bs := (cutB 32 (spaced ((cutB 35 l).headD []))).filter fun w => !w.isEmpty
def outR (s : Bs) (ws : List Bs) (ls : List (List Bs)) : Option (List (List Bs)) :=
 let all := (ws ++ wordsR ((cutB 10 s).headD [])) :: ((cutB 10 s).drop 1).map wordsR
 if all.any (fun l => decide (64 < l.length)) then none else some (ls ++ all.filter fun l => !l.isEmpty)
theorem cut_head (x : UInt8) : ∀ s : Bs, cutB x s = (cutB x s).headD [] :: (cutB x s).drop 1
 | [] => rfl
 | c :: t => by
   unfold cutB
   split <;> rfl
theorem cut_at (x : UInt8) (t : Bs) : cutB x (x :: t) = [] :: cutB x t := by
 rw [cutB, if_pos rfl]
theorem cut_on {x c : UInt8} (h : c ≠ x) (t : Bs) : cutB x (c :: t) = (c :: (cutB x t).headD []) :: (cutB x t).drop 1 := by
 rw [cutB, if_neg h]
theorem cut_app {x : UInt8} {p : Bs} (h : ∀ c ∈ p, c ≠ x) (t : Bs) : cutB x (p ++ t) = (p ++ (cutB x t).headD []) :: (cutB x t).drop 1 := by
 induction p with
 | nil => simpa using cut_head x t
 | cons c p ih =>
   rw [List.cons_append, cut_on (h c (List.mem_cons_self ..)), ih fun d hd => h d (List.mem_cons_of_mem _ hd)]
   rfl
theorem words_blank {c : UInt8} (h : isBlank c = true) (l : Bs) : wordsR (c :: l) = wordsR l := by
 have h35 : c ≠ 35 := by rintro rfl; exact absurd h (by decide)
 have hs : (if c = 9 ∨ c = 13 then 32 else c) = 32 := by
  unfold isBlank at h
  simp only [Bool.or_eq_true, beq_iff_eq] at h
  rcases h with (rfl | rfl) | rfl <;> rfl
 unfold wordsR
 rw [cut_on h35]
 show (cutB 32 (spaced (c :: (cutB 35 l).headD []))).filter _ = _
 rw [show spaced (c :: (cutB 35 l).headD []) = 32 :: spaced ((cutB 35 l).headD []) by unfold spaced; rw [List.map_cons, hs], cut_at]
 rfl
theorem words_hash (l : Bs) : wordsR (35 :: l) = [] := by
 unfold wordsR
 rw [cut_at]
 rfl
theorem plain_ne {c : UInt8} (h : isPlain c = true) : c ≠ 35 ∧ c ≠ 10 ∧ c ≠ 32 ∧ c ≠ 9 ∧ c ≠ 13 := by
 unfold isPlain isBlank at h
 simp only [Bool.not_eq_true', Bool.or_eq_false_iff, beq_eq_false_iff_ne] at h
 exact ⟨h.2, h.1.2, h.1.1.1.1, h.1.1.1.2, h.1.1.2⟩
theorem words_word {p l : Bs} (hp : p ≠ []) (ha : ∀ c ∈ p, isPlain c = true) (hl : ∀ c t, l = c :: t → isPlain c = false) (h10 : ∀ c ∈ l, c ≠ 10) : wordsR (p ++ l) = p :: wordsR l := by
 have e35 := cut_app (x := 35) (fun c hc => (plain_ne (ha c hc)).1) l
 have hsp : spaced p = p := by
  unfold spaced
  conv => rhs; rw [← List.map_id p]
  refine List.map_congr_left fun c hc => ?_
  have := plain_ne (ha c hc)
  rw [if_neg (by rintro (h | h); exact this.2.2.2.1 h; exact this.2.2.2.2 h)]
  rfl
 unfold wordsR
 rw [e35]
 show (cutB 32 (spaced (p ++ (cutB 35 l).headD []))).filter _ = _
 rw [show spaced (p ++ (cutB 35 l).headD []) = p ++ spaced ((cutB 35 l).headD []) by unfold spaced at hsp ⊢; rw [List.map_append, hsp]]
 have hm : (cutB 32 (spaced ((cutB 35 l).headD []))).headD [] = [] := by
  match l, hl, h10 with
  | [], _, _ => rfl
  | c :: t, hl, h10 =>
    have hc := hl c t rfl
    have hc10 := h10 c (List.mem_cons_self ..)
    by_cases h35 : c = 35
    · subst h35; rw [cut_at]; rfl
    · have hb : isBlank c = true := by
       unfold isPlain at hc
       simp only [Bool.not_eq_false', Bool.or_eq_true, beq_iff_eq] at hc
       rcases hc with (h | h) | h
       · exact h
       · exact absurd h hc10
       · exact absurd h h35
      have hs : (if c = 9 ∨ c = 13 then 32 else c) = 32 := by
       unfold isBlank at hb
       simp only [Bool.or_eq_true, beq_iff_eq] at hb
       rcases hb with (rfl | rfl) | rfl <;> rfl
      rw [cut_on h35]
      show (cutB 32 (spaced (c :: (cutB 35 t).headD []))).headD [] = []
      rw [show spaced (c :: (cutB 35 t).headD []) = 32 :: spaced ((cutB 35 t).headD []) by unfold spaced; rw [List.map_cons, hs], cut_at]
      rfl
 rw [cut_app (x := 32) (fun c hc => (plain_ne (ha c hc)).2.2.1), hm, List.append_nil, cut_head 32 (spaced ((cutB 35 l).headD [])), hm]
 rw [List.filter_cons, if_pos (by cases p with | nil => exact absurd rfl hp | cons => rfl)]
 rfl
section
variable {s : Bs} {ws : List Bs} {ls : List (List Bs)}
theorem out_nil : outR [] ws ls = if 64 < ws.length then none else some (ls ++ if ws.isEmpty then [] else [ws]) := by
 unfold outR
 show (if ([ws ++ []].any fun l => decide (64 < l.length)) = true then none else some (ls ++ [ws ++ []].filter fun l => !l.isEmpty)) = _
 rw [List.append_nil]
 by_cases h : 64 < ws.length
 · rw [if_pos (by simpa using h), if_pos h]
 · rw [if_neg (by simpa using h), if_neg h]
   cases ws <;> rfl
theorem out_feed (t : Bs) : outR (10 :: t) ws ls = if 64 < ws.length then none else outR t [] (ls ++ if ws.isEmpty then [] else [ws]) := by
 unfold outR
 rw [cut_at]
 show (if (((ws ++ []) :: (cutB 10 t).map wordsR).any fun l => decide (64 < l.length)) = true then none else some (ls ++ ((ws ++ []) :: (cutB 10 t).map wordsR).filter fun l => !l.isEmpty)) = _
 rw [List.append_nil, List.any_cons, cut_head 10 t]
 show (if (decide (64 < ws.length) || (wordsR ((cutB 10 t).headD []) :: ((cutB 10 t).drop 1).map wordsR).any fun l => decide (64 < l.length)) = true then none else _) = _
 by_cases h : 64 < ws.length
 · rw [if_pos (by simp [h]), if_pos h]
 · rw [if_neg h, decide_eq_false h, Bool.false_or]
   show _ = if (([] ++ wordsR ((cutB 10 t).headD [])) :: ((cutB 10 t).drop 1).map wordsR).any (fun l => decide (64 < l.length)) = true then none else some ((ls ++ if ws.isEmpty then [] else [ws]) ++ (([] ++ wordsR ((cutB 10 t).headD [])) :: ((cutB 10 t).drop 1).map wordsR).filter fun l => !l.isEmpty)
   rw [List.nil_append]
   split
   · rfl
   · rw [List.append_assoc]
     cases ws <;> rfl
theorem out_blank {c : UInt8} (h : isBlank c = true) (t : Bs) : outR (c :: t) ws ls = outR t ws ls := by
 have h10 : c ≠ 10 := by rintro rfl; exact absurd h (by decide)
 unfold outR
 rw [cut_on h10]
 show (if ((ws ++ wordsR (c :: (cutB 10 t).headD [])) :: ((cutB 10 t).drop 1).map wordsR).any _ = true then none else some (ls ++ ((ws ++ wordsR (c :: (cutB 10 t).headD [])) :: ((cutB 10 t).drop 1).map wordsR).filter _)) = _
 rw [words_blank h]
theorem cut_behind : ∀ t : Bs, cutB 10 (t.dropWhile (· != 10)) = [] :: (cutB 10 t).drop 1
 | [] => rfl
 | c :: t => by
   by_cases h : c = 10
   · subst h
     rw [List.dropWhile_cons, if_neg (by decide), cut_at]; rfl
   · rw [List.dropWhile_cons, if_pos (by simpa using h), cut_on h, cut_behind t]
     rfl
theorem out_hash (t : Bs) : outR (35 :: t) ws ls = outR (t.dropWhile (· != 10)) ws ls := by
 unfold outR
 rw [cut_on (by decide), cut_behind]
 show (if ((ws ++ wordsR (35 :: (cutB 10 t).headD [])) :: ((cutB 10 t).drop 1).map wordsR).any _ = true then none else some (ls ++ ((ws ++ wordsR (35 :: (cutB 10 t).headD [])) :: ((cutB 10 t).drop 1).map wordsR).filter _)) = _
 rw [words_hash]
 rfl
theorem cut_no (x : UInt8) : ∀ t : Bs, ∀ c ∈ (cutB x t).headD [], c ≠ x
 | [], c, h => by cases h
 | d :: t, c, h => by
   by_cases e : d = x
   · subst e; rw [cut_at] at h; cases h
   · rw [cut_on e] at h
     rcases List.mem_cons.1 h with rfl | h
     · exact e
     · exact cut_no x t c h
theorem out_word {p r : Bs} (hp : p ≠ []) (ha : ∀ c ∈ p, isPlain c = true) (hr : ∀ c t, r = c :: t → isPlain c = false) : outR (p ++ r) ws ls = outR r (ws ++ [p]) ls := by
 unfold outR
 rw [cut_app (fun c hc => (plain_ne (ha c hc)).2.1)]
 show (if ((ws ++ wordsR (p ++ (cutB 10 r).headD [])) :: ((cutB 10 r).drop 1).map wordsR).any _ = true then none else some (ls ++ ((ws ++ wordsR (p ++ (cutB 10 r).headD [])) :: ((cutB 10 r).drop 1).map wordsR).filter _)) = _
 rw [words_word hp ha ?_ (cut_no 10 r)]
 · rw [List.append_assoc]; rfl
 · intro c t e
   match r, hr with
   | [], _ => cases e
   | d :: r', hr =>
     have hd := hr d r' rfl
     by_cases h10 : d = 10
     · subst h10; rw [cut_at] at e; cases e
     · rw [cut_on h10] at e
       have e2 : d = c := (List.cons.inj e).1
       subst e2
       exact hd
end
end Go.Proofs.YtbffebcjimhapaaGreatDoor
namespace Go.Proofs.YtbffebcjimhapaaGreatDoor
set_option linter.unusedVariables false
set_option linter.unusedSimpArgs false
open Go.ChangeShapes Go.WideShapes Go.ChangeAt Go.RowKit
def toL (s : ByteArray) : Bs := s.data.toList
theorem toL_inj {s t : ByteArray} (h : toL s = toL t) : s = t := by
 obtain ⟨⟨a⟩⟩ := s
 obtain ⟨⟨b⟩⟩ := t
 have h2 : a = b := h
 rw [h2]
theorem toL_size (s : ByteArray) : (toL s).length = s.size := Array.length_toList
theorem toL_extract (s : ByteArray) {i j : Nat} (hj : j ≤ s.size) : toL (s.extract i j) = ((toL s).drop i).take (j - i) := by
 unfold toL
 rw [ByteArray.data_extract, Array.toList_extract]
theorem toL_at (s : ByteArray) {i : Nat} (h : i < s.size) : (toL s)[i]? = some (s[i]'h) := by
 unfold toL
 rw [Array.getElem?_toList]
 exact Array.getElem?_eq_getElem h
def OwnStrs (w : World) (lo : Nat) (v : Value) (xs : List ByteArray) : Prop := w.ownsRow lo 9 1 v xs.length (xs.map Value.string)
def StrsAt (w : World) (lo B : Nat) (A : Option Addr) (xs : List ByteArray) : Prop := CellsAt w lo B A 1 xs.length fun i _ => .string (xs.getD i ⟨#[]⟩)
section
variable {w w' : World} {lo lo' : Nat} {v : Value} {xs : List ByteArray}
theorem OwnStrs.nil (w : World) (lo : Nat) : OwnStrs w lo (.slice none 0 0) [] := World.ownsRow_nil _ _ _ _
theorem OwnStrs.keep (h : OwnStrs w lo v xs) (hb : Below w.heap.size w w') : OwnStrs w' lo v xs := ownsRow_keep h hb
theorem OwnStrs.more (h : OwnStrs w lo v xs) (hl : lo' ≤ lo) : OwnStrs w lo' v xs := ownsRow_more h hl
theorem OwnStrs.base (h : OwnStrs w lo v xs) : ∀ k, v.ownBlock = some k → lo ≤ k := own_base h
theorem OwnStrs.full (h : OwnStrs w lo v xs) : ∃ A c, v = .slice A xs.length c ∧ Hdr A xs.length c ∧ StrsAt w 0 w.heap.size A xs := by
 obtain ⟨A, c, hv, hle, hcap, hnil, hc⟩ := ownsRow_form h (by omega)
 refine ⟨A, c, hv, ⟨hle, hcap, hnil⟩, (hc.more (Nat.zero_le _) (Nat.le_refl _)).congr fun i hi j hj => ?_⟩
 obtain rfl : j = 0 := by omega
 simp [List.getD, List.getElem?_eq_getElem hi]
theorem StrsAt.on {A : Option Addr} (h : StrsAt w 0 w.heap.size A xs) (hb : Below w.heap.size w w') : StrsAt w' 0 w'.heap.size A xs := (CellsAt.keep h hb).more (Nat.le_refl _) hb.size
theorem StrsAt.elem {lo B : Nat} {A : Option Addr} (h : StrsAt w lo B A xs) {i : Nat} (hi : i < xs.length) : ∃ b off x, A = some ⟨b, off, none⟩ ∧ b < w.heap.size ∧ w.cell? ⟨b, off + i, none⟩ = some (.string x) ∧ Hid (xs.getD i ⟨#[]⟩ = x) := by
 obtain ⟨b, off, rfl, h1, h2, hc⟩ := h (by omega)
 have c0 := hc i hi 0 (by omega)
 rw [Nat.mul_one, Nat.add_zero] at c0
 exact ⟨b, off, _, rfl, World.block_lt_of_cell? w _ c0, c0, Lib.hid rfl⟩
end
theorem strInfo : (Tryz.prog.info? 9).map (fun i => (i.zero, i.size, i.bytes)) = some (some (.string ⟨#[]⟩), 1, 16) := by kernel_rfl
set_option maxRecDepth 100000 in
theorem wpList_appT {w : World} {ops : Array Oper} {rest : List Oper} {o : Oper} {a : Act} {Q : Exit → Act → World → Prop} (hgd : o.guard = none) (s x : Operand)
 (ho : o.op = .call { callee := .builtin .append, args := #[s, x], argTypes := #[51, 51] })
 (lo : Nat) (v : Value) (xs : List ByteArray) (hs : a.eval s = v) (y : ByteArray) (hown : OwnStrs w lo v xs) (hx : a.eval x = .slice (some ⟨w.heap.size, 0, none⟩) 1 1) (hlen : xs.length ≤ 1000000) (hlo : lo ≤ w.heap.size)
 (h : ∀ v' w', OwnStrs w' lo v' (xs ++ [y]) → (w.alloc (.cells #[.string y] 9)).grownBy w' v.ownBlock → wpList Tryz.prog ops Q rest (a.put o.dst v') w') : wpList Tryz.prog ops Q (o :: rest) a (w.alloc (.cells #[.string y] 9)) := by
 obtain ⟨i0, hi, hz0, hz1, hz2⟩ := info_parts strInfo
 refine wpList_appS hgd s x 51 9 ho i0 _ 1 16 Tryz.underlying51 hi hz0 hz1 hz2 rfl (by decide) lo v xs.length _ hs hown _ hx rfl ?_ hlen (by decide) hlo ?_
 · intro u hu
   simp at hu
   subst hu
   rfl
 · intro v' w' h1 h2
   refine h v' w' ?_ h2
   unfold OwnStrs
   rw [List.length_append, List.map_append]
   exact h1
def SomeStrs (m : List Bs) (w : World) (e : Ending) (w' : World) : Prop := ∃ v xs, e = .returned v ∧ OwnStrs w' w.heap.size v xs ∧ xs.map toL = m ∧ Below w.heap.size w w'
def cutWith (x : UInt8) (p t : Bs) : List Bs := (p ++ (cutB x t).headD []) :: (cutB x t).drop 1
theorem cutWith_nil (x : UInt8) (t : Bs) : cutWith x [] t = cutB x t := (cut_head x t).symm
theorem cutWith_end (x : UInt8) (p : Bs) : cutWith x p [] = [p] := by unfold cutWith; rw [show cutB x [] = [[]] from rfl]; simp
theorem cutWith_at (x : UInt8) (p t : Bs) : cutWith x p (x :: t) = p :: cutWith x [] t := by
 unfold cutWith
 rw [cut_at]
 show (p ++ []) :: cutB x t = p :: ([] ++ (cutB x t).headD []) :: (cutB x t).drop 1
 rw [List.append_nil, List.nil_append, ← cut_head]
theorem cutWith_on {x c : UInt8} (h : c ≠ x) (p t : Bs) : cutWith x p (c :: t) = cutWith x (p ++ [c]) t := by
 unfold cutWith
 rw [cut_on h]
 simp
def TBlk (w : World) (g : Nat) (t : TypeId) : Prop := ∃ cur : Array Value, w.heap[g]? = some (.cells cur t (0, 0))
theorem TBlk.beneath {w w' : World} {g : Nat} {t : TypeId} (h : TBlk w g t) (hb : Below w.heap.size w w') : TBlk w' g t := by
 obtain ⟨cur, h⟩ := h
 exact ⟨cur, (hb.block g (Array.getElem?_eq_some_iff.1 h).1).trans h⟩
structure LnR where
 a : Option Addr
 c : Nat
 xs : List ByteArray
deriving Inhabited
def LnR.cell (r : LnR) : Value := .slice r.a r.xs.length r.c
def LnR.data (r : LnR) : List Bs := r.xs.map toL
structure LnR.At (w : World) (r : LnR) : Prop where
 hdr : Hdr r.a r.xs.length r.c
 strs : StrsAt w 0 w.heap.size r.a r.xs
structure LnR.Ok (w : World) (r : LnR) : Prop where
 at_ : r.At w
 blk : 0 < r.xs.length → ∃ b o, r.a = some ⟨b, o, none⟩ ∧ TBlk w b 9
theorem LnR.At.on {w w' : World} {r : LnR} (h : r.At w) (hb : Below w.heap.size w w') : r.At w' := ⟨h.hdr, h.strs.on hb⟩
theorem LnR.Ok.on {w w' : World} {r : LnR} (h : r.Ok w) (hb : Below w.heap.size w w') : r.Ok w' := ⟨h.at_.on hb, fun hn => by
 obtain ⟨b, o, e, ht⟩ := h.blk hn
 exact ⟨b, o, e, ht.beneath hb⟩⟩
theorem OwnStrs.row {w : World} {lo : Nat} {v : Value} {xs : List ByteArray} (h : OwnStrs w lo v xs) : ∃ r : LnR, v = r.cell ∧ r.xs = xs ∧ r.Ok w := by
 obtain ⟨A, c, hv, hh, hs⟩ := h.full
 refine ⟨⟨A, c, xs⟩, hv, rfl, ⟨hh, hs⟩, fun hn => ?_⟩
 rcases h.2 with ⟨_, h0⟩ | ⟨g, cap, cur, hv2, _, hg, _⟩
 · have : 0 < xs.length := hn
   omega
 · rw [hv] at hv2
   injection hv2 with hv2 _ _
   exact ⟨g, 0, hv2, cur, hg⟩
structure LinesAt (w : World) (A : Option Addr) (c : Nat) (rows : List LnR) : Prop where
 hdr : Hdr A rows.length c
 cells : CellsAt w 0 w.heap.size A 1 rows.length fun i _ => (rows.getD i default).cell
 rows : ∀ r ∈ rows, r.At w
theorem LinesAt.on {w w' : World} {A : Option Addr} {c : Nat} {rows : List LnR} (h : LinesAt w A c rows) (hb : Below w.heap.size w w') : LinesAt w' A c rows :=
 ⟨h.hdr, (CellsAt.keep h.cells hb).more (Nat.le_refl _) hb.size, fun r hr => (h.rows r hr).on hb⟩
theorem LinesAt.elem {w : World} {A : Option Addr} {c : Nat} {rows : List LnR} (h : LinesAt w A c rows) {i : Nat} (hi : i < rows.length) : ∃ b off r, A = some ⟨b, off, none⟩ ∧ b < w.heap.size ∧ w.cell? ⟨b, off + i, none⟩ = some (.slice r.a r.xs.length r.c) ∧ LnR.At w r ∧ Hid (rows.getD i default = r) := by
 obtain ⟨b, off, rfl, h1, h2, hc⟩ := h.cells (by omega)
 have c0 := hc i hi 0 (by omega)
 rw [Nat.mul_one, Nat.add_zero] at c0
 have hm : rows.getD i default ∈ rows := by rw [List.getD_eq_getElem?_getD, List.getElem?_eq_getElem hi]; exact List.getElem_mem hi
 exact ⟨b, off, _, rfl, World.block_lt_of_cell? w _ c0, c0, h.rows _ hm, Lib.hid rfl⟩
structure OwnLines (w : World) (lo : Nat) (v : Value) (rows : List LnR) : Prop where
 row : w.ownsRow lo 51 1 v rows.length (rows.map LnR.cell)
 ok : ∀ r ∈ rows, r.Ok w
section
variable {w w' : World} {lo lo' : Nat} {v : Value} {rows : List LnR}
theorem OwnLines.nil (w : World) (lo : Nat) : OwnLines w lo (.slice none 0 0) [] := ⟨World.ownsRow_nil _ _ _ _, fun r hr => by cases hr⟩
theorem OwnLines.keep (h : OwnLines w lo v rows) (hb : Below w.heap.size w w') : OwnLines w' lo v rows := ⟨ownsRow_keep h.row hb, fun r hr => (h.ok r hr).on hb⟩
theorem OwnLines.more (h : OwnLines w lo v rows) (hl : lo' ≤ lo) : OwnLines w lo' v rows := ⟨ownsRow_more h.row hl, h.ok⟩
theorem OwnLines.full (h : OwnLines w lo v rows) : ∃ A c, v = .slice A rows.length c ∧ LinesAt w A c rows := by
 obtain ⟨A, c, hv, hle, hcap, hnil, hc⟩ := ownsRow_form h.row (by omega)
 refine ⟨A, c, hv, ⟨hle, hcap, hnil⟩, (hc.more (Nat.zero_le _) (Nat.le_refl _)).congr fun i hi j hj => ?_, fun r hr => (h.ok r hr).at_⟩
 obtain rfl : j = 0 := by omega
 simp [List.getD, List.getElem?_eq_getElem hi]
end
theorem linesInfo : (Tryz.prog.info? 51).map (fun i => (i.zero, i.size, i.bytes)) = some (some (.slice none 0 0), 1, 24) := by kernel_rfl
set_option maxRecDepth 100000 in
theorem wpList_appL {w : World} {ops : Array Oper} {rest : List Oper} {o : Oper} {a : Act} {Q : Exit → Act → World → Prop} (hgd : o.guard = none) (s x : Operand)
 (ho : o.op = .call { callee := .builtin .append, args := #[s, x], argTypes := #[45, 45] })
 (lo : Nat) (v : Value) (rows : List LnR) (hs : a.eval s = v) (r : LnR) (hown : OwnLines w lo v rows) (hr : r.Ok w) (hx : a.eval x = .slice (some ⟨w.heap.size, 0, none⟩) 1 1) (hlen : rows.length ≤ 1000000) (hlo : lo ≤ w.heap.size)
 (h : ∀ v' w', OwnLines w' lo v' (rows ++ [r]) → (w.alloc (.cells #[.slice r.a r.xs.length r.c] 51)).grownBy w' v.ownBlock → wpList Tryz.prog ops Q rest (a.put o.dst v') w') : wpList Tryz.prog ops Q (o :: rest) a (w.alloc (.cells #[.slice r.a r.xs.length r.c] 51)) := by
 obtain ⟨i0, hi, hz0, hz1, hz2⟩ := info_parts linesInfo
 refine wpList_appS hgd s x 45 51 ho i0 _ 1 24 Tryz.underlying45 hi hz0 hz1 hz2 rfl (by decide) lo v rows.length _ hs hown.row _ hx rfl ?_ hlen (by decide) hlo ?_
 · intro u hu
   simp at hu
   subst hu
   rfl
 · intro v' w' h1 h2
   have hb : Below w.heap.size w (w.alloc (.cells #[.slice r.a r.xs.length r.c] 51)) := (Below.refl _ _).alloc (Nat.le_refl _) _
   have ok2 : ∀ q : LnR, q.Ok w → q.Ok w' := fun q hq => by
    have hq2 := hq.on hb
    have hk : ∀ b, TBlk (w.alloc (.cells #[.slice r.a r.xs.length r.c] 51)) b 9 → b < (w.alloc (.cells #[.slice r.a r.xs.length r.c] 51)).heap.size ∧ w'.heap[b]? = (w.alloc (.cells #[.slice r.a r.xs.length r.c] 51)).heap[b]? := fun b ht => by
     obtain ⟨cur, ht⟩ := ht
     have hl := (Array.getElem?_eq_some_iff.1 ht).1
     refine ⟨hl, h2.block b hl fun e => ?_⟩
     rcases (World.ownsRow.alloc hown.row _).2 with ⟨hv, _⟩ | ⟨g, cap, cur2, hv, _, hg, _⟩
     · rw [hv] at e; cases e
     · rw [hv] at e
       have e2 : b = g := Option.some.inj e
       subst e2
       rw [hg] at ht
       injection ht with ht
       injection ht with _ ht _
       exact absurd ht (by decide)
    refine ⟨⟨hq2.at_.hdr, fun hn => ?_⟩, fun hn => ?_⟩
    · obtain ⟨b, off, e, l1, l2, hc⟩ := hq2.at_.strs hn
      obtain ⟨b', o', e', ht⟩ := hq2.blk hn
      rw [e] at e'
      injection e' with e'
      injection e' with e' _ _
      subst e'
      obtain ⟨k1, k2⟩ := hk b ht
      exact ⟨b, off, e, l1, Nat.lt_of_lt_of_le l2 h2.size, fun i hi j hj => by rw [World.cell?_of_block k2]; exact hc i hi j hj⟩
    · obtain ⟨b, o, e, ht⟩ := hq2.blk hn
      obtain ⟨k1, k2⟩ := hk b ht
      obtain ⟨cur, ht⟩ := ht
      exact ⟨b, o, e, cur, k2.trans ht⟩
   refine h v' w' ⟨?_, fun q hq => ?_⟩ h2
   · rw [List.length_append, List.map_append]
     exact h1
   · rcases List.mem_append.1 hq with hq | hq
     · exact ok2 q (hown.ok q hq)
     · rw [List.mem_singleton.1 hq]; exact ok2 r hr
def LinesOut (o : Option (List (List Bs))) (w : World) (e : Ending) (w' : World) : Prop :=
 match o with
 | none => e = .returned (.tuple #[.slice none 0 0, .int .i64 4]) ∧ Below w.heap.size w w'
 | some m => ∃ v rows, e = .returned (.tuple #[v, .int .i64 0]) ∧ OwnLines w' w.heap.size v rows ∧ rows.map LnR.data = m ∧ Below w.heap.size w w'
def linesP (s : Bs) : Option (List (List Bs)) := if 16384 < s.length then none else outR s [] []
theorem outR_start (s : Bs) : outR s [] [] = if ((cutB 10 s).map wordsR).any (fun l => decide (64 < l.length)) then none else some (((cutB 10 s).map wordsR).filter fun l => !l.isEmpty) := by
 have h : (cutB 10 s).map wordsR = ([] ++ wordsR ((cutB 10 s).headD [])) :: ((cutB 10 s).drop 1).map wordsR := by
  rw [List.nil_append]
  conv => lhs; rw [cut_head 10 s]
  rfl
 rw [h]
 rfl
end Go.Proofs.YtbffebcjimhapaaGreatDoor
