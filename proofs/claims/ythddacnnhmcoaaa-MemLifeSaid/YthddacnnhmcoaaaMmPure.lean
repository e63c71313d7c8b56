/-
  Plain law: memories of blocks: which may be, and what is done with them. No program in sight but for the numbers of calc.
-/
import Derived.Test.YthddacnnhmcoaaaMmCalc
namespace Go.Proofs.Ythddacnnhmcoaaa
set_option linter.unusedVariables false
set_option linter.unusedSimpArgs false

structure Vl where
  k : Int
  n : Int
  b : Int
  t : Int
deriving DecidableEq, Inhabited
structure Bk where
  site : Int
  type : Int
  depth : Int
  alive : Bool
  cells : List Vl
deriving DecidableEq, Inhabited

def blkOf (m : List Bk) (v : Vl) : Bk := m.getD (v.b - 1).toNat default
def isV (m : List Bk) (v : Vl) : Bool := mayB v.k v.n v.b v.t && (decide (v.k ≠ 2) || (decide (v.b = 0) || (decide (v.b ≤ m.length) && decide (v.t < (blkOf m v).cells.length))))
def okB (m : List Bk) (b : Bk) : Bool := decide (0 ≤ b.site) && (decide (0 ≤ b.type) && (decide (0 ≤ b.depth) && (decide (1 ≤ b.cells.length) && (decide (b.cells.length ≤ 32) && b.cells.all (isV m)))))
def mayM (m : List Bk) : Bool := decide (m.length ≤ 4096) && m.all (okB m)
def checkM (m : List Bk) : Int := if mayM m then 0 else 8
/-- The error of a pointer, of a memory that may be. -/
def ptrM (m : List Bk) (p : Vl) : Int := if p.k = 2 ∧ isV m p = true then (if p.b = 0 then 140 else 0) else 2
def cellOf (m : List Bk) (p : Vl) : Vl := (blkOf m p).cells.getD p.t.toNat default
def deepM (m : List Bk) (v : Vl) : Int := if v.k = 2 ∧ 0 < v.b then (blkOf m v).depth else 0
def loadE (m : List Bk) (p : Vl) : Int := if mayM m = false then 8 else if ptrM m p ≠ 0 then ptrM m p else if (blkOf m p).alive = false then 142 else 0
def loadV (m : List Bk) (p : Vl) : Vl := if loadE m p = 0 then cellOf m p else default
def storeE (m : List Bk) (p v : Vl) : Int :=
  if mayM m = false then 8 else if ptrM m p = 2 ∨ isV m v = false ∨ (ptrM m p = 0 ∧ (cellOf m p).k ≠ v.k) then 2
  else if ptrM m p ≠ 0 then ptrM m p else if (blkOf m p).alive = false then 142 else if (blkOf m p).depth < deepM m v then 144 else 0
def putC (b : Bk) (i : Nat) (v : Vl) : Bk := { b with cells := b.cells.set i v }
def storeM (m : List Bk) (p v : Vl) : List Bk := if storeE m p v = 0 then m.set (p.b - 1).toNat (putC (blkOf m p) p.t.toNat v) else []
def freeE (m : List Bk) (p : Vl) : Int :=
  if mayM m = false then 8 else if ptrM m p ≠ 0 then ptrM m p else if 0 < (blkOf m p).depth ∨ 0 < p.t then 143 else if (blkOf m p).alive = false then 142 else 0
def deadB (b : Bk) : Bk := { b with alive := false }
def freeM (m : List Bk) (p : Vl) : List Bk := if freeE m p = 0 then m.set (p.b - 1).toNat (deadB (blkOf m p)) else []
def moveE (m : List Bk) (p : Vl) (d : Int) : Int := if mayM m = false then 8 else if ptrM m p ≠ 0 then ptrM m p else if d < -p.t ∨ ((blkOf m p).cells.length : Int) - p.t ≤ d then 2 else 0
def moveV (m : List Bk) (p : Vl) (d : Int) : Vl := if moveE m p d = 0 then { p with t := p.t + d } else default
def popE (m : List Bk) (d : Int) : Int := if mayM m = false then 8 else if d < 1 then 2 else 0
def popB (d : Int) (b : Bk) : Bk := if d ≤ b.depth then deadB b else b
def popM (m : List Bk) (d : Int) : List Bk := if popE m d = 0 then m.map (popB d) else []
def depthE (m : List Bk) (v : Vl) : Int := if mayM m = false then 8 else if isV m v = false then 2 else 0
def depthM (m : List Bk) (v : Vl) : Int := if depthE m v = 0 then deepM m v else 0
def lifeB (m : List Bk) (b : Bk) : Bool := !b.alive || b.cells.all fun v => decide (deepM m v ≤ b.depth)
def lifeM (m : List Bk) : Bool := m.all (lifeB m)
def holdsM (m : List Bk) : Bool := mayM m && lifeM m
def kindOk (k : Int) : Bool := decide (1 ≤ k) && decide (k ≤ 3)
def newE (m : List Bk) (site kind depth : Int) (l : List Int) : Int :=
  if mayM m = false then 8 else if l.all kindOk = false ∨ site < 0 ∨ kind < 0 ∨ depth < 0 ∨ l.length < 1 ∨ 32 < l.length then 2 else if 4096 ≤ m.length then 9 else 0
def firstV (k : Int) : Vl := ⟨k, 0, 0, 0⟩
def newB (site kind depth : Int) (l : List Int) : Bk := ⟨site, kind, depth, true, l.map firstV⟩
def newM (m : List Bk) (site kind depth : Int) (l : List Int) : List Bk := if newE m site kind depth l = 0 then m ++ [newB site kind depth l] else []
def newP (m : List Bk) (site kind depth : Int) (l : List Int) : Vl := if newE m site kind depth l = 0 then ⟨2, 0, m.length + 1, 0⟩ else default

/-- What is known of a pointer to a block that is there. -/
theorem isV_ptr {m : List Bk} {p : Vl} (hk : p.k = 2) (h : isV m p = true) (hb : p.b ≠ 0) : p.n = 0 ∧ 1 ≤ p.b ∧ p.b ≤ m.length ∧ 0 ≤ p.t ∧ p.t < (blkOf m p).cells.length := by
  unfold isV mayB at h
  simp only [Bool.and_eq_true, Bool.or_eq_true, decide_eq_true_eq] at h
  obtain ⟨h1, h2⟩ := h
  unfold MayP at h1
  have h3 : p.b ≤ m.length ∧ p.t < (blkOf m p).cells.length := by
    rcases h2 with h2 | h2 | h2
    · exact absurd hk h2
    · exact absurd h2 hb
    · exact h2
  refine ⟨by omega, by omega, h3.1, by omega, h3.2⟩
theorem ptr_zero {m : List Bk} {p : Vl} (h : ptrM m p = 0) : p.k = 2 ∧ isV m p = true ∧ p.b ≠ 0 := by
  unfold ptrM at h
  split at h
  · rename_i h1
    split at h
    · cases h
    · exact ⟨h1.1, h1.2, ‹_›⟩
  · cases h
theorem ptr_140 {m : List Bk} {p : Vl} (h : ptrM m p = 140) : p.k = 2 ∧ isV m p = true ∧ p.b = 0 := by
  unfold ptrM at h
  split at h
  · rename_i h1
    split at h
    · exact ⟨h1.1, h1.2, ‹_›⟩
    · cases h
  · cases h
theorem ptr_vals (m : List Bk) (p : Vl) : ptrM m p = 0 ∨ ptrM m p = 2 ∨ ptrM m p = 140 := by
  unfold ptrM
  split
  · split
    · exact .inr (.inr rfl)
    · exact .inl rfl
  · exact .inr (.inl rfl)
theorem ptr_in {m : List Bk} {p : Vl} (h : ptrM m p = 0) : p.n = 0 ∧ 1 ≤ p.b ∧ p.b ≤ m.length ∧ 0 ≤ p.t ∧ p.t < (blkOf m p).cells.length := by
  obtain ⟨h1, h2, h3⟩ := ptr_zero h
  exact isV_ptr h1 h2 h3
theorem deep_in {m : List Bk} {v : Vl} (h : isV m v = true) (hk : v.k = 2) (hb : 0 < v.b) : v.b ≤ m.length := (isV_ptr hk h (by omega)).2.2.1
end Go.Proofs.Ythddacnnhmcoaaa
