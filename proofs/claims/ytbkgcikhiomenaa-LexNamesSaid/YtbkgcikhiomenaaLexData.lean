/-
  Lists of texts: how they lie; append of one.
-/
import Derived.Test.YtbkgcikhiomenaaMmLoops
import Derived.Test.YtbkgcikhiomenaaLexPure
import Derived.OwnWalk
import Derived.Laws.OwnMore
import Derived.Outline
import Derived.BigQuiet
import Derived.Deep.QuietTactic
namespace Go.Proofs.Ytbkgcikhiomenaa
set_option linter.unusedVariables false
set_option linter.unusedSimpArgs false
open Go.ChangeShapes Go.WideShapes Go.ChangeAt Go.RowKit

def toL (s : ByteArray) : Bs := s.data.toList
theorem toL_inj {s t : ByteArray} (h : toL s = toL t) : s = t := by
  obtain ⟨⟨a⟩⟩ := s
  obtain ⟨⟨b⟩⟩ := t
  have h2 : a = b := h
  rw [h2]
theorem toL_size (s : ByteArray) : (toL s).length = s.size := Array.length_toList
theorem toL_extract (s : ByteArray) {i j : Nat} (hj : j ≤ s.size) : toL (s.extract i j) = ((toL s).drop i).take (j - i) := by
  unfold toL
  rw [ByteArray.data_extract, Array.toList_extract]
theorem toL_at (s : ByteArray) {i : Nat} (h : i < s.size) : (toL s)[i]? = some (s[i]'h) := by
  unfold toL
  rw [Array.getElem?_toList]
  exact Array.getElem?_eq_getElem h
/-- A list of texts of the call's own. -/
def OwnStrs (w : World) (lo : Nat) (v : Value) (xs : List ByteArray) : Prop := w.ownsRow lo 9 1 v xs.length (xs.map Value.string)
def StrsAt (w : World) (lo B : Nat) (A : Option Addr) (xs : List ByteArray) : Prop := CellsAt w lo B A 1 xs.length fun i _ => .string (xs.getD i ⟨#[]⟩)
section
variable {w w' : World} {lo lo' : Nat} {v : Value} {xs : List ByteArray}
theorem OwnStrs.nil (w : World) (lo : Nat) : OwnStrs w lo (.slice none 0 0) [] := World.ownsRow_nil _ _ _ _
theorem OwnStrs.keep (h : OwnStrs w lo v xs) (hb : Below w.heap.size w w') : OwnStrs w' lo v xs := ownsRow_keep h hb
theorem OwnStrs.more (h : OwnStrs w lo v xs) (hl : lo' ≤ lo) : OwnStrs w lo' v xs := ownsRow_more h hl
theorem OwnStrs.base (h : OwnStrs w lo v xs) : ∀ k, v.ownBlock = some k → lo ≤ k := own_base h
theorem OwnStrs.full (h : OwnStrs w lo v xs) : ∃ A c, v = .slice A xs.length c ∧ Hdr A xs.length c ∧ StrsAt w 0 w.heap.size A xs := by
  obtain ⟨A, c, hv, hle, hcap, hnil, hc⟩ := ownsRow_form h (by omega)
  refine ⟨A, c, hv, ⟨hle, hcap, hnil⟩, (hc.more (Nat.zero_le _) (Nat.le_refl _)).congr fun i hi j hj => ?_⟩
  obtain rfl : j = 0 := by omega
  simp [List.getD, List.getElem?_eq_getElem hi]
theorem StrsAt.on {A : Option Addr} (h : StrsAt w 0 w.heap.size A xs) (hb : Below w.heap.size w w') : StrsAt w' 0 w'.heap.size A xs := (CellsAt.keep h hb).more (Nat.le_refl _) hb.size
theorem StrsAt.elem {lo B : Nat} {A : Option Addr} (h : StrsAt w lo B A xs) {i : Nat} (hi : i < xs.length) : ∃ b off x, A = some ⟨b, off, none⟩ ∧ b < w.heap.size ∧ w.cell? ⟨b, off + i, none⟩ = some (.string x) ∧ Hid (xs.getD i ⟨#[]⟩ = x) := by
  obtain ⟨b, off, rfl, h1, h2, hc⟩ := h (by omega)
  have c0 := hc i hi 0 (by omega)
  rw [Nat.mul_one, Nat.add_zero] at c0
  exact ⟨b, off, _, rfl, World.block_lt_of_cell? w _ c0, c0, Lib.hid rfl⟩
end
theorem strInfo : (Try.prog.info? 9).map (fun i => (i.zero, i.size, i.bytes)) = some (some (.string ⟨#[]⟩), 1, 16) := by kernel_rfl
set_option maxRecDepth 100000 in
/-- append of one text that has just been laid in a block of its own. -/
theorem wpList_appT {w : World} {ops : Array Oper} {rest : List Oper} {o : Oper} {a : Act} {Q : Exit → Act → World → Prop} (hgd : o.guard = none) (s x : Operand)
    (ho : o.op = .call { callee := .builtin .append, args := #[s, x], argTypes := #[39, 39] })
    (lo : Nat) (v : Value) (xs : List ByteArray) (hs : a.eval s = v) (y : ByteArray) (hown : OwnStrs w lo v xs) (hx : a.eval x = .slice (some ⟨w.heap.size, 0, none⟩) 1 1) (hlen : xs.length ≤ 1000000) (hlo : lo ≤ w.heap.size)
    (h : ∀ v' w', OwnStrs w' lo v' (xs ++ [y]) → (w.alloc (.cells #[.string y] 9)).grownBy w' v.ownBlock → wpList Try.prog ops Q rest (a.put o.dst v') w') : wpList Try.prog ops Q (o :: rest) a (w.alloc (.cells #[.string y] 9)) := by
  obtain ⟨i0, hi, hz0, hz1, hz2⟩ := info_parts strInfo
  refine wpList_appS hgd s x 39 9 ho i0 _ 1 16 Try.underlying39 hi hz0 hz1 hz2 rfl (by decide) lo v xs.length _ hs hown _ hx rfl ?_ hlen (by decide) hlo ?_
  · intro u hu
    simp at hu
    subst hu
    rfl
  · intro v' w' h1 h2
    refine h v' w' ?_ h2
    unfold OwnStrs
    rw [List.length_append, List.map_append]
    exact h1
/-- What a call answers: a list of texts of its own, which tell so. -/
def SomeStrs (m : List Bs) (w : World) (e : Ending) (w' : World) : Prop := ∃ v xs, e = .returned v ∧ OwnStrs w' w.heap.size v xs ∧ xs.map toL = m ∧ Below w.heap.size w w'
/-- To cut on, some bytes being read. -/
def cutWith (x : UInt8) (p t : Bs) : List Bs := (p ++ (cutB x t).headD []) :: (cutB x t).drop 1
theorem cutWith_nil (x : UInt8) (t : Bs) : cutWith x [] t = cutB x t := (cut_head x t).symm
theorem cutWith_end (x : UInt8) (p : Bs) : cutWith x p [] = [p] := by unfold cutWith; rw [show cutB x [] = [[]] from rfl]; simp
theorem cutWith_at (x : UInt8) (p t : Bs) : cutWith x p (x :: t) = p :: cutWith x [] t := by
  unfold cutWith
  rw [cut_at]
  show (p ++ []) :: cutB x t = p :: ([] ++ (cutB x t).headD []) :: (cutB x t).drop 1
  rw [List.append_nil, List.nil_append, ← cut_head]
theorem cutWith_on {x c : UInt8} (h : c ≠ x) (p t : Bs) : cutWith x p (c :: t) = cutWith x (p ++ [c]) t := by
  unfold cutWith
  rw [cut_on h]
  simp
end Go.Proofs.Ytbkgcikhiomenaa
