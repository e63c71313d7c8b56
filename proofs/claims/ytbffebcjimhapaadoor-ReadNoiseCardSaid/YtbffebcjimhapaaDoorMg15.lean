/-
  Steps for an instruction: append of a number as a step of a drawn region; seven cells written. The registers that an instruction and an end read.
-/
import Derived.Test.YtbffebcjimhapaaDoorMg14
import Derived.Deep.AppendLies
namespace Go.Proofs.YtbffebcjimhapaaDoor
set_option linter.unusedVariables false
set_option linter.unusedSimpArgs false
open Go.ChangeShapes Go.WideShapes Go.ChangeAt Go.RowKit

set_option maxRecDepth 100000 in
/-- append of one number, laid somewhere, as one step of a drawn region. -/
theorem step_app1 {w : World} {ops : Array Oper} {o : Oper} {a : Act} {K : Act → World → Prop} {Q : Exit → Act → World → Prop} {E : Prop} (hgd : o.guard = none) (s x : Operand)
    (ho : o.op = .call { callee := .builtin .append, args := #[s, x], argTypes := #[37, 37] })
    (base : Nat) (v : Value) (xs : List Int) (hs : a.eval s = v) (y : Int) (hown : OwnInts w base v xs) (B : Nat) (hx : a.eval x = .slice (some ⟨B, 0, none⟩) 1 1) (hB : Blk w B 3 #[.int .i64 y])
    (hlen : xs.length ≤ 1000000) (hbase : base ≤ w.heap.size)
    (h : ∀ v' w', OwnInts w' base v' (xs ++ [y]) → w.grownBy w' v.ownBlock → (∀ k, v'.ownBlock = some k → v.ownBlock = some k ∨ w.heap.size ≤ k) → K (a.put o.dst v') w') :
    if Region.wanted o (yielded ops a.tmps) = true then Oper.wp Tryd.prog o a w K Q else E := by
  obtain ⟨i0, hi, hz0, hz1, hz2⟩ := info_parts intInfo
  refine step_append_lies (P := Tryd.prog) w hgd s x 37 ho base 3 i0 _ 1 8 Tryd.underlying37 hi hz0 hz1 hz2 rfl (by decide) v xs.length _ hs hown ⟨B, 0, none⟩ 1 1 [.int .i64 y] hx rfl (World.news_of_block hB) ?_ (by omega) ?_ ?_ hbase _ rfl ?_
  · intro u hu
    simp at hu
    subst hu
    rfl
  · unfold maxLen; omega
  · omega
  · intro g cap w2 h1 h2 h3 h4
    refine h _ w2 (by unfold OwnInts; rw [List.length_append, List.map_append]; exact h1) h2 (fun k hk => ?_)
    have e1 : g = k := Option.some.inj hk
    subst e1
    rcases h3 with h3 | h3
    · exact .inl h3
    · exact .inr (by omega)
section
variable {g B : Nat} {w0 w : World} {l : LsR} {x : LnR} {tv fv : Value} {t : TypeId} {x0 x1 x2 x3 x4 x5 x6 : Value}
theorem Bx.seven (h : Bx w0 w g l x tv fv B t #[x0, x1, x2, x3, x4, x5, x6]) (h1 : 9 ≠ t) (h2 : 51 ≠ t) (h3 : 63 ≠ t) (a0 a1 a2 a3 a4 a5 a6 : Value) :
    Bx w0 (((((((w.setCell ⟨B, 0, none⟩ a0).setCell ⟨B, 1, none⟩ a1).setCell ⟨B, 2, none⟩ a2).setCell ⟨B, 3, none⟩ a3).setCell ⟨B, 4, none⟩ a4).setCell ⟨B, 5, none⟩ a5).setCell ⟨B, 6, none⟩ a6) g l x tv fv B t #[a0, a1, a2, a3, a4, a5, a6] := by
  have s0 : Bx w0 (w.setCell ⟨B, 0, none⟩ a0) g l x tv fv B t #[a0, x1, x2, x3, x4, x5, x6] := h.put h1 h2 h3 0 a0
  have s1 : Bx w0 ((w.setCell ⟨B, 0, none⟩ a0).setCell ⟨B, 1, none⟩ a1) g l x tv fv B t #[a0, a1, x2, x3, x4, x5, x6] := s0.put h1 h2 h3 1 a1
  have s2 : Bx w0 (((w.setCell ⟨B, 0, none⟩ a0).setCell ⟨B, 1, none⟩ a1).setCell ⟨B, 2, none⟩ a2) g l x tv fv B t #[a0, a1, a2, x3, x4, x5, x6] := s1.put h1 h2 h3 2 a2
  have s3 : Bx w0 ((((w.setCell ⟨B, 0, none⟩ a0).setCell ⟨B, 1, none⟩ a1).setCell ⟨B, 2, none⟩ a2).setCell ⟨B, 3, none⟩ a3) g l x tv fv B t #[a0, a1, a2, a3, x4, x5, x6] := s2.put h1 h2 h3 3 a3
  have s4 : Bx w0 (((((w.setCell ⟨B, 0, none⟩ a0).setCell ⟨B, 1, none⟩ a1).setCell ⟨B, 2, none⟩ a2).setCell ⟨B, 3, none⟩ a3).setCell ⟨B, 4, none⟩ a4) g l x tv fv B t #[a0, a1, a2, a3, a4, x5, x6] := s3.put h1 h2 h3 4 a4
  have s5 : Bx w0 ((((((w.setCell ⟨B, 0, none⟩ a0).setCell ⟨B, 1, none⟩ a1).setCell ⟨B, 2, none⟩ a2).setCell ⟨B, 3, none⟩ a3).setCell ⟨B, 4, none⟩ a4).setCell ⟨B, 5, none⟩ a5) g l x tv fv B t #[a0, a1, a2, a3, a4, a5, x6] := s4.put h1 h2 h3 5 a5
  have s6 : Bx w0 (((((((w.setCell ⟨B, 0, none⟩ a0).setCell ⟨B, 1, none⟩ a1).setCell ⟨B, 2, none⟩ a2).setCell ⟨B, 3, none⟩ a3).setCell ⟨B, 4, none⟩ a4).setCell ⟨B, 5, none⟩ a5).setCell ⟨B, 6, none⟩ a6) g l x tv fv B t #[a0, a1, a2, a3, a4, a5, a6] := s5.put h1 h2 h3 6 a6
  exact s6
theorem spare_seven (hb : Blk w B t #[x0, x1, x2, x3, x4, x5, x6]) (a0 a1 a2 a3 a4 a5 a6 : Value) :
    Spare t w (((((((w.setCell ⟨B, 0, none⟩ a0).setCell ⟨B, 1, none⟩ a1).setCell ⟨B, 2, none⟩ a2).setCell ⟨B, 3, none⟩ a3).setCell ⟨B, 4, none⟩ a4).setCell ⟨B, 5, none⟩ a5).setCell ⟨B, 6, none⟩ a6) := by
  have b0 : Blk (w.setCell ⟨B, 0, none⟩ a0) B t #[a0, x1, x2, x3, x4, x5, x6] := hb.put 0 a0
  have b1 : Blk ((w.setCell ⟨B, 0, none⟩ a0).setCell ⟨B, 1, none⟩ a1) B t #[a0, a1, x2, x3, x4, x5, x6] := b0.put 1 a1
  have b2 : Blk (((w.setCell ⟨B, 0, none⟩ a0).setCell ⟨B, 1, none⟩ a1).setCell ⟨B, 2, none⟩ a2) B t #[a0, a1, a2, x3, x4, x5, x6] := b1.put 2 a2
  have b3 : Blk ((((w.setCell ⟨B, 0, none⟩ a0).setCell ⟨B, 1, none⟩ a1).setCell ⟨B, 2, none⟩ a2).setCell ⟨B, 3, none⟩ a3) B t #[a0, a1, a2, a3, x4, x5, x6] := b2.put 3 a3
  have b4 : Blk (((((w.setCell ⟨B, 0, none⟩ a0).setCell ⟨B, 1, none⟩ a1).setCell ⟨B, 2, none⟩ a2).setCell ⟨B, 3, none⟩ a3).setCell ⟨B, 4, none⟩ a4) B t #[a0, a1, a2, a3, a4, x5, x6] := b3.put 4 a4
  have b5 : Blk ((((((w.setCell ⟨B, 0, none⟩ a0).setCell ⟨B, 1, none⟩ a1).setCell ⟨B, 2, none⟩ a2).setCell ⟨B, 3, none⟩ a3).setCell ⟨B, 4, none⟩ a4).setCell ⟨B, 5, none⟩ a5) B t #[a0, a1, a2, a3, a4, a5, x6] := b4.put 5 a5
  have s0 : Spare t w (w.setCell ⟨B, 0, none⟩ a0) := Spare.set hb a0
  have s1 : Spare t w ((w.setCell ⟨B, 0, none⟩ a0).setCell ⟨B, 1, none⟩ a1) := s0.trans (Spare.set b0 a1)
  have s2 : Spare t w (((w.setCell ⟨B, 0, none⟩ a0).setCell ⟨B, 1, none⟩ a1).setCell ⟨B, 2, none⟩ a2) := s1.trans (Spare.set b1 a2)
  have s3 : Spare t w ((((w.setCell ⟨B, 0, none⟩ a0).setCell ⟨B, 1, none⟩ a1).setCell ⟨B, 2, none⟩ a2).setCell ⟨B, 3, none⟩ a3) := s2.trans (Spare.set b2 a3)
  have s4 : Spare t w (((((w.setCell ⟨B, 0, none⟩ a0).setCell ⟨B, 1, none⟩ a1).setCell ⟨B, 2, none⟩ a2).setCell ⟨B, 3, none⟩ a3).setCell ⟨B, 4, none⟩ a4) := s3.trans (Spare.set b3 a4)
  have s5 : Spare t w ((((((w.setCell ⟨B, 0, none⟩ a0).setCell ⟨B, 1, none⟩ a1).setCell ⟨B, 2, none⟩ a2).setCell ⟨B, 3, none⟩ a3).setCell ⟨B, 4, none⟩ a4).setCell ⟨B, 5, none⟩ a5) := s4.trans (Spare.set b4 a5)
  have s6 : Spare t w (((((((w.setCell ⟨B, 0, none⟩ a0).setCell ⟨B, 1, none⟩ a1).setCell ⟨B, 2, none⟩ a2).setCell ⟨B, 3, none⟩ a3).setCell ⟨B, 4, none⟩ a4).setCell ⟨B, 5, none⟩ a5).setCell ⟨B, 6, none⟩ a6) := s5.trans (Spare.set b5 a6)
  exact s6
end
/-- Blocks and registers that are taken so far of a phi, and the words that are left. -/
def PhiTo (W : List Bs) (fs ms : List Int) (W' : List Bs) : Prop := phiP W = (phiP W').map fun q => (fs ++ q.1, ms ++ q.2)
theorem phiP_two (b r : Bs) (t : List Bs) : phiP (b :: r :: t) = (match markP b 98, markP r 114, phiP t with
    | some n, some m, some (f, a) => some (n :: f, m :: a)
    | _, _, _ => none) := rfl
theorem PhiTo.start (W : List Bs) : PhiTo W [] [] W := by
  unfold PhiTo
  cases phiP W with
  | none => rfl
  | some q => rfl
theorem PhiTo.done {W : List Bs} {fs ms : List Int} (h : PhiTo W fs ms []) : phiP W = some (fs, ms) := by
  unfold PhiTo at h
  rw [h]
  show some (fs ++ [], ms ++ []) = _
  rw [List.append_nil, List.append_nil]
theorem PhiTo.step {W W' : List Bs} {fs ms : List Int} {b r : Bs} {n m : Int} (h : PhiTo W fs ms (b :: r :: W')) (hn : markP b 98 = some n) (hm : markP r 114 = some m) : PhiTo W (fs ++ [n]) (ms ++ [m]) W' := by
  unfold PhiTo at h ⊢
  rw [h, phiP_two, hn, hm]
  cases phiP W' with
  | none => rfl
  | some q =>
    show some (fs ++ n :: q.1, ms ++ m :: q.2) = some (fs ++ [n] ++ q.1, ms ++ [m] ++ q.2)
    rw [List.append_assoc, List.append_assoc]
    rfl
theorem PhiTo.stop1 {W W' : List Bs} {fs ms : List Int} {b : Bs} (h : PhiTo W fs ms (b :: W')) (hn : markP b 98 = none) : phiP W = none := by
  unfold PhiTo at h
  rw [h]
  cases W' with
  | nil => rfl
  | cons r t => rw [phiP_two, hn]; rfl
theorem PhiTo.stop0 {W : List Bs} {fs ms : List Int} {b : Bs} (h : PhiTo W fs ms [b]) : phiP W = none := by
  unfold PhiTo at h
  rw [h]
  rfl
theorem PhiTo.stop2 {W W' : List Bs} {fs ms : List Int} {b r : Bs} (h : PhiTo W fs ms (b :: r :: W')) (hm : markP r 114 = none) : phiP W = none := by
  unfold PhiTo at h
  rw [h, phiP_two, hm]
  cases markP b 98 <;> rfl
section
variable {g B : Nat} {w0 w w' : World} {l : LsR} {x : LnR} {tv fv : Value} {t : TypeId} {cs : Array Value}
theorem own_lt {lo : Nat} {v : Value} {xs : List Int} (h : OwnInts w lo v xs) {j : Nat} (hj : v.ownBlock = some j) : lo ≤ j ∧ j < w.heap.size := by
  rcases h.2 with ⟨h1, _⟩ | ⟨g, cap, cur, h1, h2, h3, _⟩
  · rw [h1] at hj; cases hj
  · rw [h1] at hj
    have e : g = j := Option.some.inj hj
    subst e
    exact ⟨h2, (Array.getElem?_eq_some_iff.1 h3).1⟩
theorem Bx.grown (h : Bx w0 w g l x tv fv B t cs) {lo size n : Nat} {e : TypeId} {v : Value} {xs : List Value} (ho : w.ownsRow lo e size v n xs) (hg : w.grownBy w' v.ownBlock) (hlo : w0.heap.size ≤ lo)
    (h0 : t ≠ e) (h1 : 9 ≠ e) (h2 : 51 ≠ e) (h3 : 63 ≠ e) : Bx w0 w' g l x tv fv B t cs := by
  have hs := Spare.grown ho hg
  exact ⟨hs.block _ _ _ _ h.blk h0, h.rd.spare hs h1 h2 h3, h.tn.grown hg (fun k hk => Nat.le_trans hlo (own_base ho k hk)), h.lo⟩
/-- Two rows of the call's own, that lie in two blocks. -/
def Apart (u v : Value) : Prop := ∀ j, u.ownBlock = some j → v.ownBlock ≠ some j
theorem Apart.symm {u v : Value} (h : Apart u v) : Apart v u := fun j h1 h2 => h j h2 h1
theorem Apart.kept {u v : Value} {lo : Nat} {xs : List Int} (h : Apart u v) (ho : OwnInts w lo u xs) (hg : w.grownBy w' v.ownBlock) : OwnInts w' lo u xs := by
  refine ⟨ho.1, ?_⟩
  rcases ho.2 with h1 | ⟨g, cap, cur, h1, h2, h3, h4⟩
  · exact .inl h1
  · exact .inr ⟨g, cap, cur, h1, h2, (hg.block g (Array.getElem?_eq_some_iff.1 h3).1 (fun e => h g (by rw [h1]; rfl) e.symm)).trans h3, h4⟩
theorem Apart.grown {u v v' : Value} {lo : Nat} {xs : List Int} (h : Apart u v) (ho : OwnInts w lo u xs) (hat : ∀ k, v'.ownBlock = some k → v.ownBlock = some k ∨ w.heap.size ≤ k) : Apart u v' := fun j h1 h2 => by
  rcases hat j h2 with h3 | h3
  · exact h j h1 h3
  · have := (own_lt ho h1).2
    omega
theorem Apart.nil (v : Value) : Apart (.slice none 0 0) v := fun j h1 => by cases h1
end
end Go.Proofs.YtbffebcjimhapaaDoor
namespace Go.Proofs.YtbffebcjimhapaaDoor
set_option linter.unusedVariables false
set_option linter.unusedSimpArgs false
open Go.ChangeShapes Go.WideShapes Go.ChangeAt Go.RowKit

/-- An instruction, its two lists somewhere. -/
abbrev insV (op : Nat) (ty a b n : Int) (A : Option Addr) (la ca : Nat) (F : Option Addr) (lf cf : Nat) : Value :=
  .agg #[.int .u8 op, .int .i64 ty, .int .i64 a, .int .i64 b, .int .i64 n, .slice A la ca, .slice F lf cf]
def usesL (b0 b1 b3 : Bool) (a b : Int) (args : List Int) : List Int := (if b0 then [a] else []) ++ (if b1 then [b] else []) ++ (if b3 then args else [])
def endsL (k a : Int) : List Int := if k = 2 ∨ k = 3 then [a] else []

set_option maxRecDepth 100000 in
set_option maxHeartbeats 1600000 in
theorem uses_any {op : Nat} {b0 b1 b2 b3 b4 b5 : Bool} (h : Has op b0 b1 b2 b3 b4 b5) (hop : op ≤ 255) (ty a b n : Int) {A : Option Addr} {ca : Nat} {args : List Int} (hd : Hdr A args.length ca) {w : World} (ht : TabW w) (ha : IntsAt w 0 w.heap.size A args) (hl : args.length ≤ 1000) (F : Option Addr) (lf cf : Nat) :
    Calls Tryd.prog 89 #[insV op ty a b n A args.length ca F lf cf] w (SomeInts (usesL b0 b1 b3 a b args) w) := by
  have hb0 : Below w.heap.size w (w.alloc (.cells #[.int .u8 op, .int .i64 ty, .int .i64 a, .int .i64 b, .int .i64 n, .slice A args.length ca, .slice F lf cf] 39)) := (Below.refl _ _).alloc (Nat.le_refl _) _
  have HQ0 := Lib.hid hb0
  have KX0 := Lib.hid (Blk.new w 39 #[.int .u8 op, .int .i64 ty, .int .i64 a, .int .i64 b, .int .i64 n, .slice A args.length ca, .slice F lf cf])
  have HA := Lib.hid ha
  have HT := Lib.hid (ht.on hb0)
  have HH := Lib.hid h
  clear ht h ha hb0
  cases b0 <;> cases b1 <;> cases b3
  rotate_left 7
  · go_enter Tryd.func89, Tryd.ntmps89
    have HO0 := Lib.hid (OwnInts.nil (w.alloc (.cells #[.int .u8 op, .int .i64 ty, .int .i64 a, .int .i64 b, .int .i64 n, .slice A args.length ca, .slice F lf cf] 39)) w.heap.size)
    have x0 := KX0.out.cells 0
    have x1 := KX0.out.cells 1
    have x2 := KX0.out.cells 2
    have x3 := KX0.out.cells 3
    have x4 := KX0.out.cells 4
    have x5 := KX0.out.cells 5
    have x6 := KX0.out.cells 6
    go_wp2_with fail
    refine (of_is HH.out hop _ HT.out).mono ?_
    rintro e w1 ⟨rfl, hb⟩
    clear x0 x1 x2 x3 x4 x5 x6
    have KX1 := Lib.hid (KX0.out.beneath hb)
    have HQ1 := Lib.hid (HQ0.out.trans (hb.mono HQ0.out.size))
    have HO1 := Lib.hid (HO0.out.keep hb)
    clear hb
    have hb : Below w1.heap.size w1 (w1.alloc (.cells #[.bool true, .bool true, .bool b2, .bool true, .bool b4, .bool b5] 111)) := (Below.refl _ _).alloc (Nat.le_refl _) _
    have KX2 := Lib.hid (KX1.out.beneath hb)
    have HQ2 := Lib.hid (HQ1.out.trans (hb.mono HQ1.out.size))
    have HO2 := Lib.hid (HO1.out.keep hb)
    clear hb
    have KH2 := Lib.hid (Blk.new w1 111 #[.bool true, .bool true, .bool b2, .bool true, .bool b4, .bool b5])
    have x0 := KX2.out.cells 0
    have x1 := KX2.out.cells 1
    have x2 := KX2.out.cells 2
    have x3 := KX2.out.cells 3
    have x4 := KX2.out.cells 4
    have x5 := KX2.out.cells 5
    have x6 := KX2.out.cells 6
    have g0 := KH2.out.cells 0
    have g1 := KH2.out.cells 1
    have g2 := KH2.out.cells 2
    have g3 := KH2.out.cells 3
    have g4 := KH2.out.cells 4
    have g5 := KH2.out.cells 5
    have hlo := HQ2.out.size
    go_wp2_with (at_builtin; refine wpList_app1 rfl (.tmp 9) (.tmp 12) rfl w.heap.size _ [] rfl a HO2.out (by first | rfl | (rw [World.size_alloc]; rfl)) (by simp) hlo ?_; intro v2 w2 hown hg; refine pause ?_)
    clear hlo
    clear x0 x1 x2 x3 x4 x5 x6 g0 g1 g2 g3 g4 g5
    have hne := HO2.out.base
    have KX3 := Lib.hid (Blk.grown (KX2.out.alloc _) hg (HO2.out.ne KX2.out (by decide)))
    have KH3 := Lib.hid (Blk.grown (KH2.out.alloc _) hg (HO2.out.ne KH2.out (by decide)))
    have HQ3 := Lib.hid (Below.grown (HQ2.out.alloc HQ2.out.size _) hg (HQ2.out.alloc HQ2.out.size _).size hne)
    have HO3 := Lib.hid hown
    clear hown hg hne
    refine resume ?_
    have x0 := KX3.out.cells 0
    have x1 := KX3.out.cells 1
    have x2 := KX3.out.cells 2
    have x3 := KX3.out.cells 3
    have x4 := KX3.out.cells 4
    have x5 := KX3.out.cells 5
    have x6 := KX3.out.cells 6
    have g0 := KH3.out.cells 0
    have g1 := KH3.out.cells 1
    have g2 := KH3.out.cells 2
    have g3 := KH3.out.cells 3
    have g4 := KH3.out.cells 4
    have g5 := KH3.out.cells 5
    have hlo := HQ3.out.size
    go_wp2_with (at_builtin; refine wpList_app1 rfl (.tmp 16) (.tmp 19) rfl w.heap.size _ ([] ++ [a]) rfl b HO3.out (by first | rfl | (rw [World.size_alloc]; rfl)) (by simp) hlo ?_; intro v3 w3 hown hg; refine pause ?_)
    clear hlo
    clear x0 x1 x2 x3 x4 x5 x6 g0 g1 g2 g3 g4 g5
    have hne := HO3.out.base
    have KX4 := Lib.hid (Blk.grown (KX3.out.alloc _) hg (HO3.out.ne KX3.out (by decide)))
    have KH4 := Lib.hid (Blk.grown (KH3.out.alloc _) hg (HO3.out.ne KH3.out (by decide)))
    have HQ4 := Lib.hid (Below.grown (HQ3.out.alloc HQ3.out.size _) hg (HQ3.out.alloc HQ3.out.size _).size hne)
    have HO4 := Lib.hid hown
    clear hown hg hne
    refine resume ?_
    have x0 := KX4.out.cells 0
    have x1 := KX4.out.cells 1
    have x2 := KX4.out.cells 2
    have x3 := KX4.out.cells 3
    have x4 := KX4.out.cells 4
    have x5 := KX4.out.cells 5
    have x6 := KX4.out.cells 6
    have g0 := KH4.out.cells 0
    have g1 := KH4.out.cells 1
    have g2 := KH4.out.cells 2
    have g3 := KH4.out.cells 3
    have g4 := KH4.out.cells 4
    have g5 := KH4.out.cells 5
    have hlo := HQ4.out.size
    go_wp2_with (at_builtin; refine wpList_appN rfl (.tmp 23) (.tmp 25) rfl w.heap.size 0 w.heap.size _ (([] ++ [a]) ++ [b]) rfl HO4.out A args.length ca args rfl rfl hd.nil (HA.out.keep HQ4.out) (by simp; omega) hlo ?_; intro v4 w4 hown hg; refine pause ?_)
    clear hlo
    clear x0 x1 x2 x3 x4 x5 x6 g0 g1 g2 g3 g4 g5
    have hne := HO4.out.base
    have KX5 := Lib.hid (Blk.grown KX4.out hg (HO4.out.ne KX4.out (by decide)))
    have KH5 := Lib.hid (Blk.grown KH4.out hg (HO4.out.ne KH4.out (by decide)))
    have HQ5 := Lib.hid (Below.grown HQ4.out hg HQ4.out.size hne)
    have HO5 := Lib.hid hown
    clear hown hg hne
    refine resume ?_
    have x0 := KX5.out.cells 0
    have x1 := KX5.out.cells 1
    have x2 := KX5.out.cells 2
    have x3 := KX5.out.cells 3
    have x4 := KX5.out.cells 4
    have x5 := KX5.out.cells 5
    have x6 := KX5.out.cells 6
    have g0 := KH5.out.cells 0
    have g1 := KH5.out.cells 1
    have g2 := KH5.out.cells 2
    have g3 := KH5.out.cells 3
    have g4 := KH5.out.cells 4
    have g5 := KH5.out.cells 5
    go_wp2_with fail
    go_ret
    refine ⟨_, rfl, ?_, HQ5.out⟩
    have hfin := HO5.out
    simpa [usesL] using hfin
  · go_enter Tryd.func89, Tryd.ntmps89
    have HO0 := Lib.hid (OwnInts.nil (w.alloc (.cells #[.int .u8 op, .int .i64 ty, .int .i64 a, .int .i64 b, .int .i64 n, .slice A args.length ca, .slice F lf cf] 39)) w.heap.size)
    have x0 := KX0.out.cells 0
    have x1 := KX0.out.cells 1
    have x2 := KX0.out.cells 2
    have x3 := KX0.out.cells 3
    have x4 := KX0.out.cells 4
    have x5 := KX0.out.cells 5
    have x6 := KX0.out.cells 6
    go_wp2_with fail
    refine (of_is HH.out hop _ HT.out).mono ?_
    rintro e w1 ⟨rfl, hb⟩
    clear x0 x1 x2 x3 x4 x5 x6
    have KX1 := Lib.hid (KX0.out.beneath hb)
    have HQ1 := Lib.hid (HQ0.out.trans (hb.mono HQ0.out.size))
    have HO1 := Lib.hid (HO0.out.keep hb)
    clear hb
    have hb : Below w1.heap.size w1 (w1.alloc (.cells #[.bool false, .bool false, .bool b2, .bool false, .bool b4, .bool b5] 111)) := (Below.refl _ _).alloc (Nat.le_refl _) _
    have KX2 := Lib.hid (KX1.out.beneath hb)
    have HQ2 := Lib.hid (HQ1.out.trans (hb.mono HQ1.out.size))
    have HO2 := Lib.hid (HO1.out.keep hb)
    clear hb
    have KH2 := Lib.hid (Blk.new w1 111 #[.bool false, .bool false, .bool b2, .bool false, .bool b4, .bool b5])
    have x0 := KX2.out.cells 0
    have x1 := KX2.out.cells 1
    have x2 := KX2.out.cells 2
    have x3 := KX2.out.cells 3
    have x4 := KX2.out.cells 4
    have x5 := KX2.out.cells 5
    have x6 := KX2.out.cells 6
    have g0 := KH2.out.cells 0
    have g1 := KH2.out.cells 1
    have g2 := KH2.out.cells 2
    have g3 := KH2.out.cells 3
    have g4 := KH2.out.cells 4
    have g5 := KH2.out.cells 5
    go_wp2_with fail
    go_ret
    refine ⟨_, rfl, ?_, HQ2.out⟩
    have hfin := HO2.out
    simpa [usesL] using hfin
  · go_enter Tryd.func89, Tryd.ntmps89
    have HO0 := Lib.hid (OwnInts.nil (w.alloc (.cells #[.int .u8 op, .int .i64 ty, .int .i64 a, .int .i64 b, .int .i64 n, .slice A args.length ca, .slice F lf cf] 39)) w.heap.size)
    have x0 := KX0.out.cells 0
    have x1 := KX0.out.cells 1
    have x2 := KX0.out.cells 2
    have x3 := KX0.out.cells 3
    have x4 := KX0.out.cells 4
    have x5 := KX0.out.cells 5
    have x6 := KX0.out.cells 6
    go_wp2_with fail
    refine (of_is HH.out hop _ HT.out).mono ?_
    rintro e w1 ⟨rfl, hb⟩
    clear x0 x1 x2 x3 x4 x5 x6
    have KX1 := Lib.hid (KX0.out.beneath hb)
    have HQ1 := Lib.hid (HQ0.out.trans (hb.mono HQ0.out.size))
    have HO1 := Lib.hid (HO0.out.keep hb)
    clear hb
    have hb : Below w1.heap.size w1 (w1.alloc (.cells #[.bool false, .bool false, .bool b2, .bool true, .bool b4, .bool b5] 111)) := (Below.refl _ _).alloc (Nat.le_refl _) _
    have KX2 := Lib.hid (KX1.out.beneath hb)
    have HQ2 := Lib.hid (HQ1.out.trans (hb.mono HQ1.out.size))
    have HO2 := Lib.hid (HO1.out.keep hb)
    clear hb
    have KH2 := Lib.hid (Blk.new w1 111 #[.bool false, .bool false, .bool b2, .bool true, .bool b4, .bool b5])
    have x0 := KX2.out.cells 0
    have x1 := KX2.out.cells 1
    have x2 := KX2.out.cells 2
    have x3 := KX2.out.cells 3
    have x4 := KX2.out.cells 4
    have x5 := KX2.out.cells 5
    have x6 := KX2.out.cells 6
    have g0 := KH2.out.cells 0
    have g1 := KH2.out.cells 1
    have g2 := KH2.out.cells 2
    have g3 := KH2.out.cells 3
    have g4 := KH2.out.cells 4
    have g5 := KH2.out.cells 5
    have hlo := HQ2.out.size
    go_wp2_with (at_builtin; refine wpList_appN rfl (.tmp 23) (.tmp 25) rfl w.heap.size 0 w.heap.size _ [] rfl HO2.out A args.length ca args rfl rfl hd.nil (HA.out.keep HQ2.out) (by simp; omega) hlo ?_; intro v2 w2 hown hg; refine pause ?_)
    clear hlo
    clear x0 x1 x2 x3 x4 x5 x6 g0 g1 g2 g3 g4 g5
    have hne := HO2.out.base
    have KX3 := Lib.hid (Blk.grown KX2.out hg (HO2.out.ne KX2.out (by decide)))
    have KH3 := Lib.hid (Blk.grown KH2.out hg (HO2.out.ne KH2.out (by decide)))
    have HQ3 := Lib.hid (Below.grown HQ2.out hg HQ2.out.size hne)
    have HO3 := Lib.hid hown
    clear hown hg hne
    refine resume ?_
    have x0 := KX3.out.cells 0
    have x1 := KX3.out.cells 1
    have x2 := KX3.out.cells 2
    have x3 := KX3.out.cells 3
    have x4 := KX3.out.cells 4
    have x5 := KX3.out.cells 5
    have x6 := KX3.out.cells 6
    have g0 := KH3.out.cells 0
    have g1 := KH3.out.cells 1
    have g2 := KH3.out.cells 2
    have g3 := KH3.out.cells 3
    have g4 := KH3.out.cells 4
    have g5 := KH3.out.cells 5
    go_wp2_with fail
    go_ret
    refine ⟨_, rfl, ?_, HQ3.out⟩
    have hfin := HO3.out
    simpa [usesL] using hfin
  · go_enter Tryd.func89, Tryd.ntmps89
    have HO0 := Lib.hid (OwnInts.nil (w.alloc (.cells #[.int .u8 op, .int .i64 ty, .int .i64 a, .int .i64 b, .int .i64 n, .slice A args.length ca, .slice F lf cf] 39)) w.heap.size)
    have x0 := KX0.out.cells 0
    have x1 := KX0.out.cells 1
    have x2 := KX0.out.cells 2
    have x3 := KX0.out.cells 3
    have x4 := KX0.out.cells 4
    have x5 := KX0.out.cells 5
    have x6 := KX0.out.cells 6
    go_wp2_with fail
    refine (of_is HH.out hop _ HT.out).mono ?_
    rintro e w1 ⟨rfl, hb⟩
    clear x0 x1 x2 x3 x4 x5 x6
    have KX1 := Lib.hid (KX0.out.beneath hb)
    have HQ1 := Lib.hid (HQ0.out.trans (hb.mono HQ0.out.size))
    have HO1 := Lib.hid (HO0.out.keep hb)
    clear hb
    have hb : Below w1.heap.size w1 (w1.alloc (.cells #[.bool false, .bool true, .bool b2, .bool false, .bool b4, .bool b5] 111)) := (Below.refl _ _).alloc (Nat.le_refl _) _
    have KX2 := Lib.hid (KX1.out.beneath hb)
    have HQ2 := Lib.hid (HQ1.out.trans (hb.mono HQ1.out.size))
    have HO2 := Lib.hid (HO1.out.keep hb)
    clear hb
    have KH2 := Lib.hid (Blk.new w1 111 #[.bool false, .bool true, .bool b2, .bool false, .bool b4, .bool b5])
    have x0 := KX2.out.cells 0
    have x1 := KX2.out.cells 1
    have x2 := KX2.out.cells 2
    have x3 := KX2.out.cells 3
    have x4 := KX2.out.cells 4
    have x5 := KX2.out.cells 5
    have x6 := KX2.out.cells 6
    have g0 := KH2.out.cells 0
    have g1 := KH2.out.cells 1
    have g2 := KH2.out.cells 2
    have g3 := KH2.out.cells 3
    have g4 := KH2.out.cells 4
    have g5 := KH2.out.cells 5
    have hlo := HQ2.out.size
    go_wp2_with (at_builtin; refine wpList_app1 rfl (.tmp 16) (.tmp 19) rfl w.heap.size _ [] rfl b HO2.out (by first | rfl | (rw [World.size_alloc]; rfl)) (by simp) hlo ?_; intro v2 w2 hown hg; refine pause ?_)
    clear hlo
    clear x0 x1 x2 x3 x4 x5 x6 g0 g1 g2 g3 g4 g5
    have hne := HO2.out.base
    have KX3 := Lib.hid (Blk.grown (KX2.out.alloc _) hg (HO2.out.ne KX2.out (by decide)))
    have KH3 := Lib.hid (Blk.grown (KH2.out.alloc _) hg (HO2.out.ne KH2.out (by decide)))
    have HQ3 := Lib.hid (Below.grown (HQ2.out.alloc HQ2.out.size _) hg (HQ2.out.alloc HQ2.out.size _).size hne)
    have HO3 := Lib.hid hown
    clear hown hg hne
    refine resume ?_
    have x0 := KX3.out.cells 0
    have x1 := KX3.out.cells 1
    have x2 := KX3.out.cells 2
    have x3 := KX3.out.cells 3
    have x4 := KX3.out.cells 4
    have x5 := KX3.out.cells 5
    have x6 := KX3.out.cells 6
    have g0 := KH3.out.cells 0
    have g1 := KH3.out.cells 1
    have g2 := KH3.out.cells 2
    have g3 := KH3.out.cells 3
    have g4 := KH3.out.cells 4
    have g5 := KH3.out.cells 5
    go_wp2_with fail
    go_ret
    refine ⟨_, rfl, ?_, HQ3.out⟩
    have hfin := HO3.out
    simpa [usesL] using hfin
  · go_enter Tryd.func89, Tryd.ntmps89
    have HO0 := Lib.hid (OwnInts.nil (w.alloc (.cells #[.int .u8 op, .int .i64 ty, .int .i64 a, .int .i64 b, .int .i64 n, .slice A args.length ca, .slice F lf cf] 39)) w.heap.size)
    have x0 := KX0.out.cells 0
    have x1 := KX0.out.cells 1
    have x2 := KX0.out.cells 2
    have x3 := KX0.out.cells 3
    have x4 := KX0.out.cells 4
    have x5 := KX0.out.cells 5
    have x6 := KX0.out.cells 6
    go_wp2_with fail
    refine (of_is HH.out hop _ HT.out).mono ?_
    rintro e w1 ⟨rfl, hb⟩
    clear x0 x1 x2 x3 x4 x5 x6
    have KX1 := Lib.hid (KX0.out.beneath hb)
    have HQ1 := Lib.hid (HQ0.out.trans (hb.mono HQ0.out.size))
    have HO1 := Lib.hid (HO0.out.keep hb)
    clear hb
    have hb : Below w1.heap.size w1 (w1.alloc (.cells #[.bool false, .bool true, .bool b2, .bool true, .bool b4, .bool b5] 111)) := (Below.refl _ _).alloc (Nat.le_refl _) _
    have KX2 := Lib.hid (KX1.out.beneath hb)
    have HQ2 := Lib.hid (HQ1.out.trans (hb.mono HQ1.out.size))
    have HO2 := Lib.hid (HO1.out.keep hb)
    clear hb
    have KH2 := Lib.hid (Blk.new w1 111 #[.bool false, .bool true, .bool b2, .bool true, .bool b4, .bool b5])
    have x0 := KX2.out.cells 0
    have x1 := KX2.out.cells 1
    have x2 := KX2.out.cells 2
    have x3 := KX2.out.cells 3
    have x4 := KX2.out.cells 4
    have x5 := KX2.out.cells 5
    have x6 := KX2.out.cells 6
    have g0 := KH2.out.cells 0
    have g1 := KH2.out.cells 1
    have g2 := KH2.out.cells 2
    have g3 := KH2.out.cells 3
    have g4 := KH2.out.cells 4
    have g5 := KH2.out.cells 5
    have hlo := HQ2.out.size
    go_wp2_with (at_builtin; refine wpList_app1 rfl (.tmp 16) (.tmp 19) rfl w.heap.size _ [] rfl b HO2.out (by first | rfl | (rw [World.size_alloc]; rfl)) (by simp) hlo ?_; intro v2 w2 hown hg; refine pause ?_)
    clear hlo
    clear x0 x1 x2 x3 x4 x5 x6 g0 g1 g2 g3 g4 g5
    have hne := HO2.out.base
    have KX3 := Lib.hid (Blk.grown (KX2.out.alloc _) hg (HO2.out.ne KX2.out (by decide)))
    have KH3 := Lib.hid (Blk.grown (KH2.out.alloc _) hg (HO2.out.ne KH2.out (by decide)))
    have HQ3 := Lib.hid (Below.grown (HQ2.out.alloc HQ2.out.size _) hg (HQ2.out.alloc HQ2.out.size _).size hne)
    have HO3 := Lib.hid hown
    clear hown hg hne
    refine resume ?_
    have x0 := KX3.out.cells 0
    have x1 := KX3.out.cells 1
    have x2 := KX3.out.cells 2
    have x3 := KX3.out.cells 3
    have x4 := KX3.out.cells 4
    have x5 := KX3.out.cells 5
    have x6 := KX3.out.cells 6
    have g0 := KH3.out.cells 0
    have g1 := KH3.out.cells 1
    have g2 := KH3.out.cells 2
    have g3 := KH3.out.cells 3
    have g4 := KH3.out.cells 4
    have g5 := KH3.out.cells 5
    have hlo := HQ3.out.size
    go_wp2_with (at_builtin; refine wpList_appN rfl (.tmp 23) (.tmp 25) rfl w.heap.size 0 w.heap.size _ ([] ++ [b]) rfl HO3.out A args.length ca args rfl rfl hd.nil (HA.out.keep HQ3.out) (by simp; omega) hlo ?_; intro v3 w3 hown hg; refine pause ?_)
    clear hlo
    clear x0 x1 x2 x3 x4 x5 x6 g0 g1 g2 g3 g4 g5
    have hne := HO3.out.base
    have KX4 := Lib.hid (Blk.grown KX3.out hg (HO3.out.ne KX3.out (by decide)))
    have KH4 := Lib.hid (Blk.grown KH3.out hg (HO3.out.ne KH3.out (by decide)))
    have HQ4 := Lib.hid (Below.grown HQ3.out hg HQ3.out.size hne)
    have HO4 := Lib.hid hown
    clear hown hg hne
    refine resume ?_
    have x0 := KX4.out.cells 0
    have x1 := KX4.out.cells 1
    have x2 := KX4.out.cells 2
    have x3 := KX4.out.cells 3
    have x4 := KX4.out.cells 4
    have x5 := KX4.out.cells 5
    have x6 := KX4.out.cells 6
    have g0 := KH4.out.cells 0
    have g1 := KH4.out.cells 1
    have g2 := KH4.out.cells 2
    have g3 := KH4.out.cells 3
    have g4 := KH4.out.cells 4
    have g5 := KH4.out.cells 5
    go_wp2_with fail
    go_ret
    refine ⟨_, rfl, ?_, HQ4.out⟩
    have hfin := HO4.out
    simpa [usesL] using hfin
  · go_enter Tryd.func89, Tryd.ntmps89
    have HO0 := Lib.hid (OwnInts.nil (w.alloc (.cells #[.int .u8 op, .int .i64 ty, .int .i64 a, .int .i64 b, .int .i64 n, .slice A args.length ca, .slice F lf cf] 39)) w.heap.size)
    have x0 := KX0.out.cells 0
    have x1 := KX0.out.cells 1
    have x2 := KX0.out.cells 2
    have x3 := KX0.out.cells 3
    have x4 := KX0.out.cells 4
    have x5 := KX0.out.cells 5
    have x6 := KX0.out.cells 6
    go_wp2_with fail
    refine (of_is HH.out hop _ HT.out).mono ?_
    rintro e w1 ⟨rfl, hb⟩
    clear x0 x1 x2 x3 x4 x5 x6
    have KX1 := Lib.hid (KX0.out.beneath hb)
    have HQ1 := Lib.hid (HQ0.out.trans (hb.mono HQ0.out.size))
    have HO1 := Lib.hid (HO0.out.keep hb)
    clear hb
    have hb : Below w1.heap.size w1 (w1.alloc (.cells #[.bool true, .bool false, .bool b2, .bool false, .bool b4, .bool b5] 111)) := (Below.refl _ _).alloc (Nat.le_refl _) _
    have KX2 := Lib.hid (KX1.out.beneath hb)
    have HQ2 := Lib.hid (HQ1.out.trans (hb.mono HQ1.out.size))
    have HO2 := Lib.hid (HO1.out.keep hb)
    clear hb
    have KH2 := Lib.hid (Blk.new w1 111 #[.bool true, .bool false, .bool b2, .bool false, .bool b4, .bool b5])
    have x0 := KX2.out.cells 0
    have x1 := KX2.out.cells 1
    have x2 := KX2.out.cells 2
    have x3 := KX2.out.cells 3
    have x4 := KX2.out.cells 4
    have x5 := KX2.out.cells 5
    have x6 := KX2.out.cells 6
    have g0 := KH2.out.cells 0
    have g1 := KH2.out.cells 1
    have g2 := KH2.out.cells 2
    have g3 := KH2.out.cells 3
    have g4 := KH2.out.cells 4
    have g5 := KH2.out.cells 5
    have hlo := HQ2.out.size
    go_wp2_with (at_builtin; refine wpList_app1 rfl (.tmp 9) (.tmp 12) rfl w.heap.size _ [] rfl a HO2.out (by first | rfl | (rw [World.size_alloc]; rfl)) (by simp) hlo ?_; intro v2 w2 hown hg; refine pause ?_)
    clear hlo
    clear x0 x1 x2 x3 x4 x5 x6 g0 g1 g2 g3 g4 g5
    have hne := HO2.out.base
    have KX3 := Lib.hid (Blk.grown (KX2.out.alloc _) hg (HO2.out.ne KX2.out (by decide)))
    have KH3 := Lib.hid (Blk.grown (KH2.out.alloc _) hg (HO2.out.ne KH2.out (by decide)))
    have HQ3 := Lib.hid (Below.grown (HQ2.out.alloc HQ2.out.size _) hg (HQ2.out.alloc HQ2.out.size _).size hne)
    have HO3 := Lib.hid hown
    clear hown hg hne
    refine resume ?_
    have x0 := KX3.out.cells 0
    have x1 := KX3.out.cells 1
    have x2 := KX3.out.cells 2
    have x3 := KX3.out.cells 3
    have x4 := KX3.out.cells 4
    have x5 := KX3.out.cells 5
    have x6 := KX3.out.cells 6
    have g0 := KH3.out.cells 0
    have g1 := KH3.out.cells 1
    have g2 := KH3.out.cells 2
    have g3 := KH3.out.cells 3
    have g4 := KH3.out.cells 4
    have g5 := KH3.out.cells 5
    go_wp2_with fail
    go_ret
    refine ⟨_, rfl, ?_, HQ3.out⟩
    have hfin := HO3.out
    simpa [usesL] using hfin
  · go_enter Tryd.func89, Tryd.ntmps89
    have HO0 := Lib.hid (OwnInts.nil (w.alloc (.cells #[.int .u8 op, .int .i64 ty, .int .i64 a, .int .i64 b, .int .i64 n, .slice A args.length ca, .slice F lf cf] 39)) w.heap.size)
    have x0 := KX0.out.cells 0
    have x1 := KX0.out.cells 1
    have x2 := KX0.out.cells 2
    have x3 := KX0.out.cells 3
    have x4 := KX0.out.cells 4
    have x5 := KX0.out.cells 5
    have x6 := KX0.out.cells 6
    go_wp2_with fail
    refine (of_is HH.out hop _ HT.out).mono ?_
    rintro e w1 ⟨rfl, hb⟩
    clear x0 x1 x2 x3 x4 x5 x6
    have KX1 := Lib.hid (KX0.out.beneath hb)
    have HQ1 := Lib.hid (HQ0.out.trans (hb.mono HQ0.out.size))
    have HO1 := Lib.hid (HO0.out.keep hb)
    clear hb
    have hb : Below w1.heap.size w1 (w1.alloc (.cells #[.bool true, .bool false, .bool b2, .bool true, .bool b4, .bool b5] 111)) := (Below.refl _ _).alloc (Nat.le_refl _) _
    have KX2 := Lib.hid (KX1.out.beneath hb)
    have HQ2 := Lib.hid (HQ1.out.trans (hb.mono HQ1.out.size))
    have HO2 := Lib.hid (HO1.out.keep hb)
    clear hb
    have KH2 := Lib.hid (Blk.new w1 111 #[.bool true, .bool false, .bool b2, .bool true, .bool b4, .bool b5])
    have x0 := KX2.out.cells 0
    have x1 := KX2.out.cells 1
    have x2 := KX2.out.cells 2
    have x3 := KX2.out.cells 3
    have x4 := KX2.out.cells 4
    have x5 := KX2.out.cells 5
    have x6 := KX2.out.cells 6
    have g0 := KH2.out.cells 0
    have g1 := KH2.out.cells 1
    have g2 := KH2.out.cells 2
    have g3 := KH2.out.cells 3
    have g4 := KH2.out.cells 4
    have g5 := KH2.out.cells 5
    have hlo := HQ2.out.size
    go_wp2_with (at_builtin; refine wpList_app1 rfl (.tmp 9) (.tmp 12) rfl w.heap.size _ [] rfl a HO2.out (by first | rfl | (rw [World.size_alloc]; rfl)) (by simp) hlo ?_; intro v2 w2 hown hg; refine pause ?_)
    clear hlo
    clear x0 x1 x2 x3 x4 x5 x6 g0 g1 g2 g3 g4 g5
    have hne := HO2.out.base
    have KX3 := Lib.hid (Blk.grown (KX2.out.alloc _) hg (HO2.out.ne KX2.out (by decide)))
    have KH3 := Lib.hid (Blk.grown (KH2.out.alloc _) hg (HO2.out.ne KH2.out (by decide)))
    have HQ3 := Lib.hid (Below.grown (HQ2.out.alloc HQ2.out.size _) hg (HQ2.out.alloc HQ2.out.size _).size hne)
    have HO3 := Lib.hid hown
    clear hown hg hne
    refine resume ?_
    have x0 := KX3.out.cells 0
    have x1 := KX3.out.cells 1
    have x2 := KX3.out.cells 2
    have x3 := KX3.out.cells 3
    have x4 := KX3.out.cells 4
    have x5 := KX3.out.cells 5
    have x6 := KX3.out.cells 6
    have g0 := KH3.out.cells 0
    have g1 := KH3.out.cells 1
    have g2 := KH3.out.cells 2
    have g3 := KH3.out.cells 3
    have g4 := KH3.out.cells 4
    have g5 := KH3.out.cells 5
    have hlo := HQ3.out.size
    go_wp2_with (at_builtin; refine wpList_appN rfl (.tmp 23) (.tmp 25) rfl w.heap.size 0 w.heap.size _ ([] ++ [a]) rfl HO3.out A args.length ca args rfl rfl hd.nil (HA.out.keep HQ3.out) (by simp; omega) hlo ?_; intro v3 w3 hown hg; refine pause ?_)
    clear hlo
    clear x0 x1 x2 x3 x4 x5 x6 g0 g1 g2 g3 g4 g5
    have hne := HO3.out.base
    have KX4 := Lib.hid (Blk.grown KX3.out hg (HO3.out.ne KX3.out (by decide)))
    have KH4 := Lib.hid (Blk.grown KH3.out hg (HO3.out.ne KH3.out (by decide)))
    have HQ4 := Lib.hid (Below.grown HQ3.out hg HQ3.out.size hne)
    have HO4 := Lib.hid hown
    clear hown hg hne
    refine resume ?_
    have x0 := KX4.out.cells 0
    have x1 := KX4.out.cells 1
    have x2 := KX4.out.cells 2
    have x3 := KX4.out.cells 3
    have x4 := KX4.out.cells 4
    have x5 := KX4.out.cells 5
    have x6 := KX4.out.cells 6
    have g0 := KH4.out.cells 0
    have g1 := KH4.out.cells 1
    have g2 := KH4.out.cells 2
    have g3 := KH4.out.cells 3
    have g4 := KH4.out.cells 4
    have g5 := KH4.out.cells 5
    go_wp2_with fail
    go_ret
    refine ⟨_, rfl, ?_, HQ4.out⟩
    have hfin := HO4.out
    simpa [usesL] using hfin
  · go_enter Tryd.func89, Tryd.ntmps89
    have HO0 := Lib.hid (OwnInts.nil (w.alloc (.cells #[.int .u8 op, .int .i64 ty, .int .i64 a, .int .i64 b, .int .i64 n, .slice A args.length ca, .slice F lf cf] 39)) w.heap.size)
    have x0 := KX0.out.cells 0
    have x1 := KX0.out.cells 1
    have x2 := KX0.out.cells 2
    have x3 := KX0.out.cells 3
    have x4 := KX0.out.cells 4
    have x5 := KX0.out.cells 5
    have x6 := KX0.out.cells 6
    go_wp2_with fail
    refine (of_is HH.out hop _ HT.out).mono ?_
    rintro e w1 ⟨rfl, hb⟩
    clear x0 x1 x2 x3 x4 x5 x6
    have KX1 := Lib.hid (KX0.out.beneath hb)
    have HQ1 := Lib.hid (HQ0.out.trans (hb.mono HQ0.out.size))
    have HO1 := Lib.hid (HO0.out.keep hb)
    clear hb
    have hb : Below w1.heap.size w1 (w1.alloc (.cells #[.bool true, .bool true, .bool b2, .bool false, .bool b4, .bool b5] 111)) := (Below.refl _ _).alloc (Nat.le_refl _) _
    have KX2 := Lib.hid (KX1.out.beneath hb)
    have HQ2 := Lib.hid (HQ1.out.trans (hb.mono HQ1.out.size))
    have HO2 := Lib.hid (HO1.out.keep hb)
    clear hb
    have KH2 := Lib.hid (Blk.new w1 111 #[.bool true, .bool true, .bool b2, .bool false, .bool b4, .bool b5])
    have x0 := KX2.out.cells 0
    have x1 := KX2.out.cells 1
    have x2 := KX2.out.cells 2
    have x3 := KX2.out.cells 3
    have x4 := KX2.out.cells 4
    have x5 := KX2.out.cells 5
    have x6 := KX2.out.cells 6
    have g0 := KH2.out.cells 0
    have g1 := KH2.out.cells 1
    have g2 := KH2.out.cells 2
    have g3 := KH2.out.cells 3
    have g4 := KH2.out.cells 4
    have g5 := KH2.out.cells 5
    have hlo := HQ2.out.size
    go_wp2_with (at_builtin; refine wpList_app1 rfl (.tmp 9) (.tmp 12) rfl w.heap.size _ [] rfl a HO2.out (by first | rfl | (rw [World.size_alloc]; rfl)) (by simp) hlo ?_; intro v2 w2 hown hg; refine pause ?_)
    clear hlo
    clear x0 x1 x2 x3 x4 x5 x6 g0 g1 g2 g3 g4 g5
    have hne := HO2.out.base
    have KX3 := Lib.hid (Blk.grown (KX2.out.alloc _) hg (HO2.out.ne KX2.out (by decide)))
    have KH3 := Lib.hid (Blk.grown (KH2.out.alloc _) hg (HO2.out.ne KH2.out (by decide)))
    have HQ3 := Lib.hid (Below.grown (HQ2.out.alloc HQ2.out.size _) hg (HQ2.out.alloc HQ2.out.size _).size hne)
    have HO3 := Lib.hid hown
    clear hown hg hne
    refine resume ?_
    have x0 := KX3.out.cells 0
    have x1 := KX3.out.cells 1
    have x2 := KX3.out.cells 2
    have x3 := KX3.out.cells 3
    have x4 := KX3.out.cells 4
    have x5 := KX3.out.cells 5
    have x6 := KX3.out.cells 6
    have g0 := KH3.out.cells 0
    have g1 := KH3.out.cells 1
    have g2 := KH3.out.cells 2
    have g3 := KH3.out.cells 3
    have g4 := KH3.out.cells 4
    have g5 := KH3.out.cells 5
    have hlo := HQ3.out.size
    go_wp2_with (at_builtin; refine wpList_app1 rfl (.tmp 16) (.tmp 19) rfl w.heap.size _ ([] ++ [a]) rfl b HO3.out (by first | rfl | (rw [World.size_alloc]; rfl)) (by simp) hlo ?_; intro v3 w3 hown hg; refine pause ?_)
    clear hlo
    clear x0 x1 x2 x3 x4 x5 x6 g0 g1 g2 g3 g4 g5
    have hne := HO3.out.base
    have KX4 := Lib.hid (Blk.grown (KX3.out.alloc _) hg (HO3.out.ne KX3.out (by decide)))
    have KH4 := Lib.hid (Blk.grown (KH3.out.alloc _) hg (HO3.out.ne KH3.out (by decide)))
    have HQ4 := Lib.hid (Below.grown (HQ3.out.alloc HQ3.out.size _) hg (HQ3.out.alloc HQ3.out.size _).size hne)
    have HO4 := Lib.hid hown
    clear hown hg hne
    refine resume ?_
    have x0 := KX4.out.cells 0
    have x1 := KX4.out.cells 1
    have x2 := KX4.out.cells 2
    have x3 := KX4.out.cells 3
    have x4 := KX4.out.cells 4
    have x5 := KX4.out.cells 5
    have x6 := KX4.out.cells 6
    have g0 := KH4.out.cells 0
    have g1 := KH4.out.cells 1
    have g2 := KH4.out.cells 2
    have g3 := KH4.out.cells 3
    have g4 := KH4.out.cells 4
    have g5 := KH4.out.cells 5
    go_wp2_with fail
    go_ret
    refine ⟨_, rfl, ?_, HQ4.out⟩
    have hfin := HO4.out
    simpa [usesL] using hfin
end Go.Proofs.YtbffebcjimhapaaDoor
