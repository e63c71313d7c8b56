/-
  The reference's Twin of programs: a program of the call's own that tells the same. And what stands on it: RdBlock0, RdWhole, RdLim, RdTie, RfWord.
-/
import Derived.Test.YtbffebcjimhapaaGreatDoorMg17
import Derived.Test.YtbffebcjimhapaaGreatDoorMg20
import Derived.Test.YtbffebcjimhapaaGreatDoorMg23
import Derived.Deep.AppendLies
namespace Go.Proofs.YtbffebcjimhapaaGreatDoor
set_option linter.unusedVariables false
set_option linter.unusedSimpArgs false
open Go.ChangeShapes Go.WideShapes Go.ChangeAt Go.RowKit
theorem step_appF {w : World} {ops : Array Oper} {o : Oper} {a : Act} {K : Act → World → Prop} {Q : Exit → Act → World → Prop} {E : Prop} (hgd : o.guard = none) (s x : Operand)
    (ho : o.op = .call { callee := .builtin .append, args := #[s, x], argTypes := #[23, 23] })
    (lo : Nat) (v : Value) (rows : List FuR) (r : FuR) (hs : a.eval s = v) (hown : OwnFus w lo v rows) (B : Nat) (hx : a.eval x = .slice (some ⟨B, 0, none⟩) 1 1)
    (hB : Blk w B 64 #[.int .i64 r.sig, .slice r.ba r.blocks.length r.bc]) (hr : r.Own w lo) (hlo : lo ≤ w.heap.size) (hlen : rows.length ≤ 1000000)
    (h : ∀ v' w', OwnFus w' lo v' (rows ++ [r]) → w.grownBy w' v.ownBlock → K (a.put o.dst v') w') :
    if Region.wanted o (yielded ops a.tmps) = true then Oper.wp Tryz.prog o a w K Q else E := by
 obtain ⟨i0, hi, hz0, hz1, hz2⟩ := info_parts funcInfo
 refine step_append_lies (P := Tryz.prog) w hgd s x 23 ho lo 64 i0 _ 2 32 Tryz.underlying23 hi hz0 hz1 hz2 rfl (by decide) v rows.length _ hs hown.row ⟨B, 0, none⟩ 1 1 r.cells2 hx rfl (World.news_of_block hB) ?_ (by omega) ?_ ?_ hlo _ rfl ?_
 · intro u hu
   simp only [FuR.cells2, List.mem_cons, List.not_mem_nil, or_false] at hu
   rcases hu with rfl | rfl <;> rfl
 · unfold maxLen; omega
 · omega
 · intro g cap w2 h1 h2 h3 h4
   exact h _ w2 (OwnFus.push hown h1 h2 hr) h2
def SomeProg (d : PProg) (w : World) (e : Ending) (w' : World) : Prop := ∃ x : PrR, e = .returned x.val ∧ OwnPr w' w.heap.size x ∧ x.data = d ∧ Below w.heap.size w w'
set_option maxRecDepth 100000 in
theorem step_appI {w : World} {ops : Array Oper} {o : Oper} {a : Act} {K : Act → World → Prop} {Q : Exit → Act → World → Prop} {E : Prop} (hgd : o.guard = none) (s x : Operand)
    (ho : o.op = .call { callee := .builtin .append, args := #[s, x], argTypes := #[67, 67] })
    (lo : Nat) (v : Value) (rows : List InR) (r : InR) (hs : a.eval s = v) (hown : OwnIns w lo v rows) (B : Nat) (hx : a.eval x = .slice (some ⟨B, 0, none⟩) 1 1)
    (hB : Blk w B 74 #[.int .u8 r.op, .int .i64 r.ty, .int .i64 r.a, .int .i64 r.b, .int .i64 r.n, .slice r.aa r.args.length r.ac, .slice r.fa r.from_.length r.fc]) (hr : r.Own w lo) (hlo : lo ≤ w.heap.size) (hlen : rows.length ≤ 1000000)
    (h : ∀ v' w', OwnIns w' lo v' (rows ++ [r]) → w.grownBy w' v.ownBlock → K (a.put o.dst v') w') :
    if Region.wanted o (yielded ops a.tmps) = true then Oper.wp Tryz.prog o a w K Q else E := by
 obtain ⟨i0, hi, hz0, hz1, hz2⟩ := info_parts insInfo
 refine step_append_lies (P := Tryz.prog) w hgd s x 67 ho lo 74 i0 _ 7 88 Tryz.underlying67 hi hz0 hz1 hz2 rfl (by decide) v rows.length _ hs hown.row ⟨B, 0, none⟩ 1 1 r.cells7 hx rfl (World.news_of_block hB) ?_ (by omega) ?_ ?_ hlo _ rfl ?_
 · intro u hu
   simp only [InR.cells7, List.mem_cons, List.not_mem_nil, or_false] at hu
   rcases hu with rfl | rfl | rfl | rfl | rfl | rfl | rfl <;> rfl
 · unfold maxLen; omega
 · omega
 · intro g cap w2 h1 h2 h3 h4
   exact h _ w2 (OwnIns.push hown h1 h2 hr) h2
def lineQ {α : Type} (o : Option (α × List Bs)) : Option α := match o with
 | some (a, []) => some a
 | _ => none
def blockQ : List (List Bs) → Int → Option (List PIns × PEnd × List (List Bs))
 | [], _ => none
 | l :: t, reg =>
   if isEndP (l.headD []) then (lineQ (endQ l)).map fun e => ([], e, t)
   else match lineQ (insQ l reg) with
    | some x => (blockQ t (reg + 1)).map fun q => (x :: q.1, q.2.1, q.2.2)
    | none => none
theorem blockQ_cons (l : List Bs) (t : List (List Bs)) (reg : Int) : blockQ (l :: t) reg = (if isEndP (l.headD []) then (lineQ (endQ l)).map fun e => ([], e, t)
    else match lineQ (insQ l reg) with
     | some x => (blockQ t (reg + 1)).map fun q => (x :: q.1, q.2.1, q.2.2)
     | none => none) := rfl
def BlockTo (L : List (List Bs)) (reg : Int) (xs : List PIns) (L' : List (List Bs)) : Prop := blockQ L reg = (blockQ L' (reg + xs.length)).map fun q => (xs ++ q.1, q.2.1, q.2.2)
section
variable {L L' : List (List Bs)} {reg : Int} {xs : List PIns} {ws : List Bs}
theorem BlockTo.start (L : List (List Bs)) (reg : Int) : BlockTo L reg [] L := by
 unfold BlockTo
 rw [show reg + (([] : List PIns).length : Int) = reg from Int.add_zero _]
 cases blockQ L reg with
 | none => rfl
 | some q => rfl
theorem BlockTo.stop (h : BlockTo L reg xs []) : blockQ L reg = none := h
theorem BlockTo.ends (h : BlockTo L reg xs (ws :: L')) (he : isEndP (ws.headD []) = true) : blockQ L reg = (lineQ (endQ ws)).map fun e => (xs, e, L') := by
 unfold BlockTo at h
 rw [h, blockQ_cons, if_pos he]
 cases lineQ (endQ ws) with
 | none => rfl
 | some e =>
   show some (xs ++ [], e, L') = some (xs, e, L')
   rw [List.append_nil]
theorem BlockTo.bad (h : BlockTo L reg xs (ws :: L')) (he : isEndP (ws.headD []) = false) (hi : lineQ (insQ ws (reg + xs.length)) = none) : blockQ L reg = none := by
 unfold BlockTo at h
 rw [h, blockQ_cons, if_neg (by rw [he]; decide), hi]
 rfl
theorem BlockTo.step {x : PIns} (h : BlockTo L reg xs (ws :: L')) (he : isEndP (ws.headD []) = false) (hi : lineQ (insQ ws (reg + xs.length)) = some x) : BlockTo L reg (xs ++ [x]) L' := by
 unfold BlockTo at h ⊢
 rw [h, blockQ_cons, if_neg (by rw [he]; decide), hi]
 rw [show reg + ((xs ++ [x]).length : Int) = reg + xs.length + 1 by rw [List.length_append]; simp only [List.length_cons, List.length_nil]; omega]
 cases blockQ L' (reg + xs.length + 1) with
 | none => rfl
 | some q =>
   show some (xs ++ x :: q.1, q.2.1, q.2.2) = some (xs ++ [x] ++ q.1, q.2.1, q.2.2)
   rw [List.append_assoc]
   rfl
end
def endS : List ByteArray := [⟨#[106, 117, 109, 112]⟩, ⟨#[98, 114, 97, 110, 99, 104]⟩, ⟨#[114, 101, 116, 117, 114, 110]⟩]
theorem end_idx (b : Bs) : decide (0 ≤ idxS (endS.map toL) b) = isEndP b := by
 have hl : endS.map toL = [bJump, bBranch, bReturn] := rfl
 have hn : [bJump, bBranch, bReturn].length = 3 := rfl
 rw [hl]
 unfold idxS isEndP
 rw [hn]
 have e1 : (b == bJump) = (bJump == b) := Bool.beq_comm
 have e2 : (b == bBranch) = (bBranch == b) := Bool.beq_comm
 have e3 : (b == bReturn) = (bReturn == b) := Bool.beq_comm
 rw [e1, e2, e3, List.idxOf_cons, List.idxOf_cons, List.idxOf_cons]
 cases bJump == b <;> cases bBranch == b <;> cases bReturn == b <;> simp
structure LOk (l : LsR) : Prop where
 full : FullL l
 few : ∀ r ∈ l.rows, r.xs.length ≤ 20000
 len : l.rows.length ≤ 20000
theorem LOk.rest {l : LsR} (h : LOk l) : LOk l.rest := ⟨fun r hr => h.full r (List.mem_of_mem_drop hr), fun r hr => h.few r (List.mem_of_mem_drop hr), by show (l.rows.drop 1).length ≤ _; rw [List.length_drop]; have := h.len; omega⟩
def RdOutL {α : Type} (w : World) (g : Nat) (tv fv : Value) (Q : α → Value → World → Prop) (o : Option (α × List (List Bs))) (e : Ending) (w' : World) : Prop :=
 Tn g w w' ∧ match o with
 | none => e = giveUp
 | some (a, L) => ∃ v l' x', e = .returned v ∧ Q a v w' ∧ l'.data = L ∧ LOk l' ∧ x'.data = [] ∧ Rdr w' g l' x' tv fv
theorem endQ_some {W : List Bs} : (∃ x, lineQ (endQ W) = some x ∧ endQ W = some (x, [])) ∨ (lineQ (endQ W) = none ∧ (endQ W = none ∨ ∃ x a t, endQ W = some (x, a :: t))) := by
 cases h : endQ W with
 | none => exact .inr ⟨rfl, .inl rfl⟩
 | some q =>
   obtain ⟨x, t⟩ := q
   cases t with
   | nil => exact .inl ⟨x, rfl, rfl⟩
   | cons a t => exact .inr ⟨rfl, .inr ⟨x, a, t, rfl⟩⟩
theorem Blk.spareOf {w w' : World} {k : Nat} {t e : TypeId} {cs : Array Value} (h : Blk w k e cs) (hs : Spare t w w') (hne : e ≠ t) : Blk w' k e cs := hs.block _ _ _ _ h hne
def isBlk (lo : Nat) (t : PBlk) (v : Value) (w : World) : Prop := ∃ r : BlR, v = r.val ∧ r.data = t ∧ r.Own w lo
def blockA (L : List (List Bs)) (reg : Int) : Option (PBlk × List (List Bs)) := (blockQ L reg).map fun q => (⟨q.1, q.2.1⟩, q.2.2)
section
variable {g B : Nat} {w0 w w' : World} {l : LsR} {x : LnR} {tv fv : Value} {t : TypeId} {x0 x1 x2 x3 x4 : Value}
theorem Bx.end4 (h : Bx w0 w g l x tv fv B t #[x0, x1, x2, x3, x4]) (h1 : 9 ≠ t) (h2 : 51 ≠ t) (h3 : 55 ≠ t) (a1 a2 a3 a4 : Value) :
    Bx w0 ((((w.setCell ⟨B, 1, none⟩ a1).setCell ⟨B, 2, none⟩ a2).setCell ⟨B, 3, none⟩ a3).setCell ⟨B, 4, none⟩ a4) g l x tv fv B t #[x0, a1, a2, a3, a4] :=
 (((h.put h1 h2 h3 1 a1).put h1 h2 h3 2 a2).put h1 h2 h3 3 a3).put h1 h2 h3 4 a4
theorem spare_end4 (hb : Blk w B t #[x0, x1, x2, x3, x4]) (a1 a2 a3 a4 : Value) :
    Spare t w ((((w.setCell ⟨B, 1, none⟩ a1).setCell ⟨B, 2, none⟩ a2).setCell ⟨B, 3, none⟩ a3).setCell ⟨B, 4, none⟩ a4) :=
 (((Spare.set hb a1).trans (Spare.set (hb.put 1 a1) a2)).trans (Spare.set ((hb.put 1 a1).put 2 a2) a3)).trans (Spare.set (((hb.put 1 a1).put 2 a2).put 3 a3) a4)
theorem Bx.five (h : Bx w0 w g l x tv fv B t #[x0, x1, x2, x3, x4]) (h1 : 9 ≠ t) (h2 : 51 ≠ t) (h3 : 55 ≠ t) (a0 a1 a2 a3 a4 : Value) :
    Bx w0 (((((w.setCell ⟨B, 0, none⟩ a0).setCell ⟨B, 1, none⟩ a1).setCell ⟨B, 2, none⟩ a2).setCell ⟨B, 3, none⟩ a3).setCell ⟨B, 4, none⟩ a4) g l x tv fv B t #[a0, a1, a2, a3, a4] :=
 ((((h.put h1 h2 h3 0 a0).put h1 h2 h3 1 a1).put h1 h2 h3 2 a2).put h1 h2 h3 3 a3).put h1 h2 h3 4 a4
theorem spare_five (hb : Blk w B t #[x0, x1, x2, x3, x4]) (a0 a1 a2 a3 a4 : Value) :
    Spare t w (((((w.setCell ⟨B, 0, none⟩ a0).setCell ⟨B, 1, none⟩ a1).setCell ⟨B, 2, none⟩ a2).setCell ⟨B, 3, none⟩ a3).setCell ⟨B, 4, none⟩ a4) :=
 ((((Spare.set hb a0).trans (Spare.set (hb.put 0 a0) a1)).trans (Spare.set ((hb.put 0 a0).put 1 a1) a2)).trans (Spare.set (((hb.put 0 a0).put 1 a1).put 2 a2) a3)).trans (Spare.set ((((hb.put 0 a0).put 1 a1).put 2 a2).put 3 a3) a4)
theorem LsR.Ok.first2 (h : l.Ok w) {r : LnR} {rest : List LnR} (hd : l.rows = r :: rest) : ∃ b off, l.a = some ⟨b, off, none⟩ ∧ w.cell? ⟨b, off, none⟩ = some (.slice r.a r.xs.length r.c) ∧ r.Ok w ∧ l.rest.rows = rest := by
 obtain ⟨b, off, r', ha, hb, hc, hr, hrow, _⟩ := h.first (by rw [hd]; exact Nat.succ_pos _)
 rw [hd] at hrow
 injection hrow with e1 e2
 subst e1
 exact ⟨b, off, ha, hc, hr, e2.symm⟩
theorem LnR.Ok.first2 (h : x.Ok w) {s : ByteArray} {rest : List ByteArray} (hd : x.xs = s :: rest) : ∃ b off, x.a = some ⟨b, off, none⟩ ∧ w.cell? ⟨b, off, none⟩ = some (.string s) := by
 obtain ⟨b, off, s', ha, hb, hc, hrow, _⟩ := h.first (by rw [hd]; exact Nat.succ_pos _)
 rw [hd] at hrow
 injection hrow with e1 e2
 subst e1
 exact ⟨b, off, ha, hc⟩
theorem threeEnds_any {A : Option Addr} (hh : Hdr A 3 3) (hx : StrsAt w 0 w.heap.size A endS) (v : ByteArray) : Calls Tryz.prog 137 #[.slice A 3 3, .string v] w fun e w' => e = .returned (.bool (isEndP (toL v))) ∧ w' = w := by
 have := containsStrs_any (xs := endS) hh hx v rfl
 rw [end_idx] at this
 exact this
end
theorem blockQ_len : ∀ (L : List (List Bs)) (reg : Int) (q : List PIns × PEnd × List (List Bs)), blockQ L reg = some q → q.1.length + 1 + q.2.2.length = L.length
 | [], _, _, h => by cases h
 | l :: t, reg, q, h => by
   rw [blockQ_cons] at h
   split at h
   · obtain ⟨e, _, rfl⟩ := Option.map_eq_some_iff.1 h
     simp only [List.length_cons, List.length_nil]; omega
   · split at h
     · obtain ⟨q', hq', rfl⟩ := Option.map_eq_some_iff.1 h
       have := blockQ_len t _ q' hq'
       simp only [List.length_cons]; omega
     · cases h
def blocksQ : Nat → List (List Bs) → Int → Option (List PBlk × List (List Bs))
 | 0, l, _ => some ([], l)
 | f + 1, l, reg =>
   if isBlockP l then
    (if (l.headD []).length = 1 then
      (match blockQ (l.drop 1) reg with
        | some q => (blocksQ f q.2.2 (reg + q.1.length)).map fun z => (⟨q.1, q.2.1⟩ :: z.1, z.2)
        | none => none)
    else none)
   else some ([], l)
def blocksR (l : List (List Bs)) (reg : Int) : Option (List PBlk × List (List Bs)) := blocksQ l.length l reg
theorem blocksQ_fuel : ∀ (f f' : Nat) (L : List (List Bs)) (reg : Int), L.length ≤ f → L.length ≤ f' → blocksQ f L reg = blocksQ f' L reg
 | 0, 0, _, _, _, _ => rfl
 | 0, f' + 1, L, reg, h, _ => by
   have : L = [] := List.eq_nil_of_length_eq_zero (by omega)
   subst this
   rfl
 | f + 1, 0, L, reg, _, h => by
   have : L = [] := List.eq_nil_of_length_eq_zero (by omega)
   subst this
   rfl
 | f + 1, f' + 1, L, reg, h, h' => by
   unfold blocksQ
   cases hb : isBlockP L with
   | false => rfl
   | true =>
     rw [if_pos rfl, if_pos rfl]
     by_cases h1 : (L.headD []).length = 1
     · rw [if_pos h1, if_pos h1]
       cases hq : blockQ (L.drop 1) reg with
       | none => rfl
       | some q =>
         have hl := blockQ_len _ _ _ hq
         rw [List.length_drop] at hl
         dsimp only
         rw [blocksQ_fuel f f' q.2.2 _ (by omega) (by omega)]
     · rw [if_neg h1, if_neg h1]
theorem blocksR_eq (L : List (List Bs)) (reg : Int) : blocksR L reg = (if isBlockP L then
      (if (L.headD []).length = 1 then
        (match blockQ (L.drop 1) reg with
          | some q => (blocksR q.2.2 (reg + q.1.length)).map fun z => (⟨q.1, q.2.1⟩ :: z.1, z.2)
          | none => none)
      else none)
    else some ([], L)) := by
 unfold blocksR
 rw [blocksQ_fuel L.length (L.length + 1) L reg (Nat.le_refl _) (Nat.le_succ _)]
 show (if isBlockP L then _ else _) = _
 cases hb : isBlockP L with
 | false => rfl
 | true =>
   rw [if_pos rfl, if_pos rfl]
   by_cases h1 : (L.headD []).length = 1
   · rw [if_pos h1, if_pos h1]
     cases hq : blockQ (L.drop 1) reg with
     | none => rfl
     | some q =>
       have hl := blockQ_len _ _ _ hq
       rw [List.length_drop] at hl
       dsimp only
       rw [blocksQ_fuel L.length q.2.2.length q.2.2 _ (by omega) (Nat.le_refl _)]
   · rw [if_neg h1, if_neg h1]
theorem blocksR_len : ∀ (n : Nat) (L : List (List Bs)) (reg : Int) (z : List PBlk × List (List Bs)), L.length ≤ n → blocksR L reg = some z → z.2.length + (z.1.map fun b => b.ins.length + 2).sum = L.length
 | 0, L, reg, z, h, hz => by
   have : L = [] := List.eq_nil_of_length_eq_zero (by omega)
   subst this
   have hz : some ([], []) = some z := hz
   injection hz with hz
   subst hz
   rfl
 | n + 1, L, reg, z, h, hz => by
   rw [blocksR_eq] at hz
   split at hz
   · split at hz
     · split at hz
       · rename_i q hq
         obtain ⟨z', hz', rfl⟩ := Option.map_eq_some_iff.1 hz
         have hl := blockQ_len _ _ _ hq
         rw [List.length_drop] at hl
         have hL : 0 < L.length := by omega
         have := blocksR_len n _ _ z' (by omega) hz'
         simp only [List.map_cons, List.sum_cons]
         omega
       · cases hz
     · cases hz
   · injection hz with hz
     subst hz
     simp
def BlocksTo (L : List (List Bs)) (reg : Int) (bs : List PBlk) (L' : List (List Bs)) (reg' : Int) : Prop := blocksR L reg = (blocksR L' reg').map fun z => (bs ++ z.1, z.2)
section
variable {L L' L2 : List (List Bs)} {reg reg' : Int} {bs : List PBlk}
theorem BlocksTo.start (L : List (List Bs)) (reg : Int) : BlocksTo L reg [] L reg := by
 unfold BlocksTo
 cases blocksR L reg with
 | none => rfl
 | some z => rfl
theorem BlocksTo.done (h : BlocksTo L reg bs L' reg') (hb : isBlockP L' = false) : blocksR L reg = some (bs, L') := by
 unfold BlocksTo at h
 rw [h, blocksR_eq L', hb]
 show some (bs ++ [], L') = _
 rw [List.append_nil]
theorem BlocksTo.bad1 (h : BlocksTo L reg bs L' reg') (hb : isBlockP L' = true) (h1 : ¬ (L'.headD []).length = 1) : blocksR L reg = none := by
 unfold BlocksTo at h
 rw [h, blocksR_eq L', hb, if_pos rfl, if_neg h1]
 rfl
theorem BlocksTo.bad2 (h : BlocksTo L reg bs L' reg') (hb : isBlockP L' = true) (hq : blockQ (L'.drop 1) reg' = none) : blocksR L reg = none := by
 unfold BlocksTo at h
 rw [h, blocksR_eq L', hb, if_pos rfl, hq]
 split <;> rfl
theorem BlocksTo.step (h : BlocksTo L reg bs L' reg') (hb : isBlockP L' = true) (h1 : (L'.headD []).length = 1) {xs : List PIns} {e : PEnd} (hq : blockQ (L'.drop 1) reg' = some (xs, e, L2)) : BlocksTo L reg (bs ++ [⟨xs, e⟩]) L2 (reg' + xs.length) := by
 unfold BlocksTo at h ⊢
 rw [h, blocksR_eq L', hb, if_pos rfl, if_pos h1, hq]
 dsimp only
 cases blocksR L2 (reg' + xs.length) with
 | none => rfl
 | some z =>
   show some (bs ++ ⟨xs, e⟩ :: z.1, z.2) = some (bs ++ [⟨xs, e⟩] ++ z.1, z.2)
   rw [List.append_assoc]
   rfl
end
def functionQ (types : List Ty) (W : List Bs) (L : List (List Bs)) : Option (PFun × List (List Bs)) := match lineQ (markQ 116 W) with
 | some sig => (blocksR L (regOf types sig)).map fun z => (⟨sig, z.1⟩, z.2)
 | none => none
def funsQ : Nat → List Ty → List (List Bs) → Option (List PFun)
 | _, _, [] => some []
 | 0, _, _ :: _ => none
 | f + 1, types, l :: t => if l.headD [] = bFunc then (match functionQ types (l.drop 1) t with
    | some q => (funsQ f types q.2).map fun z => q.1 :: z
    | none => none) else none
def funsR (types : List Ty) (L : List (List Bs)) : Option (List PFun) := funsQ L.length types L
theorem functionQ_len {types : List Ty} {W : List Bs} {L : List (List Bs)} {q : PFun × List (List Bs)} (h : functionQ types W L = some q) : q.2.length + (q.1.blocks.map fun b => b.ins.length + 2).sum = L.length := by
 unfold functionQ at h
 split at h
 · obtain ⟨z, hz, rfl⟩ := Option.map_eq_some_iff.1 h
   exact blocksR_len _ _ _ _ (Nat.le_refl _) hz
 · cases h
theorem funsQ_fuel : ∀ (f f' : Nat) (types : List Ty) (L : List (List Bs)), L.length ≤ f → L.length ≤ f' → funsQ f types L = funsQ f' types L
 | f, f', types, [], _, _ => by cases f <;> cases f' <;> rfl
 | 0, _, _, _ :: _, h, _ => absurd h (by simp)
 | _ + 1, 0, _, _ :: _, _, h => absurd h (by simp)
 | f + 1, f' + 1, types, l :: t, h, h' => by
   unfold funsQ
   by_cases h1 : l.headD [] = bFunc
   · rw [if_pos h1, if_pos h1]
     cases hq : functionQ types (l.drop 1) t with
     | none => rfl
     | some q =>
       have hl := functionQ_len hq
       have e1 : (l :: t).length = t.length + 1 := rfl
       dsimp only
       rw [funsQ_fuel f f' types q.2 (by omega) (by omega)]
   · rw [if_neg h1, if_neg h1]
theorem funsR_cons (types : List Ty) (l : List Bs) (t : List (List Bs)) : funsR types (l :: t) = (if l.headD [] = bFunc then (match functionQ types (l.drop 1) t with
      | some q => (funsR types q.2).map fun z => q.1 :: z
      | none => none) else none) := by
 unfold funsR
 show (if l.headD [] = bFunc then _ else _) = _
 by_cases h1 : l.headD [] = bFunc
 · rw [if_pos h1, if_pos h1]
   cases hq : functionQ types (l.drop 1) t with
   | none => rfl
   | some q =>
     have hl := functionQ_len hq
     dsimp only
     rw [funsQ_fuel t.length q.2.length types q.2 (by omega) (Nat.le_refl _)]
 · rw [if_neg h1, if_neg h1]
def FunsTo (types : List Ty) (L : List (List Bs)) (fs : List PFun) (L' : List (List Bs)) : Prop := funsR types L = (funsR types L').map fun z => fs ++ z
section
variable {L L' : List (List Bs)} {types : List Ty} {fs : List PFun} {l : List Bs}
theorem FunsTo.start (types : List Ty) (L : List (List Bs)) : FunsTo types L [] L := by
 unfold FunsTo
 cases funsR types L with
 | none => rfl
 | some z => rfl
theorem FunsTo.done (h : FunsTo types L fs []) : funsR types L = some fs := by
 unfold FunsTo at h
 rw [h]
 show some (fs ++ []) = _
 rw [List.append_nil]
theorem FunsTo.bad1 (h : FunsTo types L fs (l :: L')) (h1 : ¬ l.headD [] = bFunc) : funsR types L = none := by
 unfold FunsTo at h
 rw [h, funsR_cons, if_neg h1]
 rfl
theorem FunsTo.bad2 (h : FunsTo types L fs (l :: L')) (hq : functionQ types (l.drop 1) L' = none) : funsR types L = none := by
 unfold FunsTo at h
 rw [h, funsR_cons, hq]
 split <;> rfl
theorem FunsTo.step (h : FunsTo types L fs (l :: L')) (h1 : l.headD [] = bFunc) {q : PFun} {L2 : List (List Bs)} (hq : functionQ types (l.drop 1) L' = some (q, L2)) : FunsTo types L (fs ++ [q]) L2 := by
 unfold FunsTo at h ⊢
 rw [h, funsR_cons, if_pos h1, hq]
 dsimp only
 cases funsR types L2 with
 | none => rfl
 | some z =>
   show some (fs ++ q :: z) = some (fs ++ [q] ++ z)
   rw [List.append_assoc]
   rfl
end
def typesQ : List (List Bs) → Option (List Ty × List (List Bs))
 | [] => some ([], [])
 | l :: t => if l.headD [] = bType then (match lineQ (kindQ (l.drop 1)) with
    | some ty => (typesQ t).map fun q => (ty :: q.1, q.2)
    | none => none) else some ([], l :: t)
theorem typesQ_cons (l : List Bs) (t : List (List Bs)) : typesQ (l :: t) = (if l.headD [] = bType then (match lineQ (kindQ (l.drop 1)) with
      | some ty => (typesQ t).map fun q => (ty :: q.1, q.2)
      | none => none) else some ([], l :: t)) := rfl
def TypesTo (L : List (List Bs)) (ts : List Ty) (L' : List (List Bs)) : Prop := typesQ L = (typesQ L').map fun z => (ts ++ z.1, z.2)
section
variable {L L' : List (List Bs)} {ts : List Ty} {l : List Bs}
theorem TypesTo.start (L : List (List Bs)) : TypesTo L [] L := by
 unfold TypesTo
 cases typesQ L with
 | none => rfl
 | some z => rfl
theorem TypesTo.ends (h : TypesTo L ts []) : typesQ L = some (ts, []) := by
 unfold TypesTo at h
 rw [h]
 show some (ts ++ [], []) = _
 rw [List.append_nil]
theorem TypesTo.done (h : TypesTo L ts (l :: L')) (h1 : ¬ l.headD [] = bType) : typesQ L = some (ts, l :: L') := by
 unfold TypesTo at h
 rw [h, typesQ_cons, if_neg h1]
 show some (ts ++ [], l :: L') = _
 rw [List.append_nil]
theorem TypesTo.bad (h : TypesTo L ts (l :: L')) (h1 : l.headD [] = bType) (hq : lineQ (kindQ (l.drop 1)) = none) : typesQ L = none := by
 unfold TypesTo at h
 rw [h, typesQ_cons, if_pos h1, hq]
 rfl
theorem TypesTo.step (h : TypesTo L ts (l :: L')) (h1 : l.headD [] = bType) {ty : Ty} (hq : lineQ (kindQ (l.drop 1)) = some ty) : TypesTo L (ts ++ [ty]) L' := by
 unfold TypesTo at h ⊢
 rw [h, typesQ_cons, if_pos h1, hq]
 dsimp only
 cases typesQ L' with
 | none => rfl
 | some z =>
   show some (ts ++ ty :: z.1, z.2) = some (ts ++ [ty] ++ z.1, z.2)
   rw [List.append_assoc]
   rfl
end
theorem typesQ_len : ∀ (L : List (List Bs)) (z : List Ty × List (List Bs)), typesQ L = some z → z.1.length + z.2.length = L.length
 | [], z, h => by
   have h : some ([], []) = some z := h
   injection h with h
   subst h
   rfl
 | l :: t, z, h => by
   rw [typesQ_cons] at h
   split at h
   · split at h
     · obtain ⟨z', hz', rfl⟩ := Option.map_eq_some_iff.1 h
       have := typesQ_len t z' hz'
       simp only [List.length_cons]; omega
     · cases h
   · injection h with h
     subst h
     simp
def programQ (L : List (List Bs)) : Option PProg := match typesQ L with
 | some z => (funsR z.1 z.2).map fun fs => ⟨z.1, fs⟩
 | none => none
def readA (s : Bs) : PProg × Int := match linesP s with
 | none => (noProg, 4)
 | some l => match programQ l with
   | none => (noProg, 70)
   | some p => if checkP p ≠ 0 then (noProg, checkP p) else (p, 0)
theorem marksP_len {c : UInt8} : ∀ (W : List Bs) (xs : List Int), marksP c W = some xs → xs.length = W.length
 | [], xs, h => by
   have h : some [] = some xs := h
   injection h with h
   subst h
   rfl
 | a :: t, xs, h => by
   unfold marksP at h
   cases hm : markP a c with
   | none => rw [hm] at h; cases h
   | some n =>
     rw [hm] at h
     dsimp only at h
     cases ht : marksP c t with
     | none => rw [ht] at h; cases h
     | some l =>
       rw [ht] at h
       injection h with h
       subst h
       have := marksP_len t l ht
       simp only [List.length_cons, this]
theorem marksQ_len {c : UInt8} {W W' : List Bs} {xs : List Int} (h : marksQ c W = some (xs, W')) : xs.length = W.length := by
 unfold marksQ at h
 obtain ⟨l, hl, e⟩ := Option.map_eq_some_iff.1 h
 injection e with e1 _
 subst e1
 exact marksP_len _ _ hl
theorem phiP_len : ∀ (n : Nat) (W : List Bs) (q : List Int × List Int), W.length ≤ n → phiP W = some q → q.1.length ≤ W.length ∧ q.2.length ≤ W.length
 | _, [], q, _, h => by
   have h : some ([], []) = some q := h
   injection h with h
   subst h
   exact ⟨Nat.le_refl _, Nat.le_refl _⟩
 | _, [_], _, _, h => by cases h
 | 0, _ :: _ :: _, _, h, _ => absurd h (by simp)
 | n + 1, b :: r :: t, q, hn, h => by
   rw [phiP_two] at h
   cases h1 : markP b 98 with
   | none => rw [h1] at h; cases h
   | some x =>
     cases h2 : markP r 114 with
     | none => rw [h1, h2] at h; cases h
     | some y =>
       cases h3 : phiP t with
       | none => rw [h1, h2, h3] at h; cases h
       | some z =>
         rw [h1, h2, h3] at h
         injection h with h
         subst h
         have := phiP_len n t z (by simp only [List.length_cons] at hn; omega) h3
         simp only [List.length_cons]
         omega
theorem kindQ_parts {W W' : List Bs} {ty : Ty} (h : kindQ W = some (ty, W')) : ty.parts.length ≤ W.length := by
 cases W with
 | nil => cases h
 | cons k r =>
   rw [kindQ_cons] at h
   split at h
   · injection h with h; injection h with h _; subst h; exact Nat.zero_le _
   split at h
   · obtain ⟨q, _, e⟩ := Option.map_eq_some_iff.1 h
     injection e with e _; subst e; exact Nat.zero_le _
   split at h
   · cases hq : markQ 116 r with
     | none => rw [hq] at h; cases h
     | some q =>
       rw [hq] at h
       obtain ⟨q', hq', e⟩ := Option.map_eq_some_iff.1 h
       injection e with e _; subst e
       have h1 := markQ_len hq
       have h2 := marksQ_len hq'
       show q'.1.length ≤ r.length + 1
       omega
   split at h
   · obtain ⟨q, hq, e⟩ := Option.map_eq_some_iff.1 h
     injection e with e _; subst e
     have h2 := marksQ_len hq
     show q.1.length ≤ r.length + 1
     omega
   split at h
   · cases hq : markQ 116 r with
     | none => rw [hq] at h; cases h
     | some q =>
       rw [hq] at h
       obtain ⟨q', hq', e⟩ := Option.map_eq_some_iff.1 h
       injection e with e _; subst e; exact Nat.zero_le _
   · cases h
theorem argQ_lens {op : Nat} {ty a b n : Int} {W W' : List Bs} {x : PIns} (h : argQ op ty a b n W = some (x, W')) : x.args.length ≤ W.length ∧ x.from_.length ≤ W.length := by
 unfold argQ at h
 split at h
 · obtain ⟨q, hq, e⟩ := Option.map_eq_some_iff.1 h
   injection e with e _; subst e
   have h2 := marksQ_len hq
   exact ⟨by show q.1.length ≤ _; omega, Nat.zero_le _⟩
 split at h
 · obtain ⟨q, hq, e⟩ := Option.map_eq_some_iff.1 h
   injection e with e _; subst e
   have h2 := phiP_len _ _ _ (Nat.le_refl _) hq
   exact ⟨h2.2, h2.1⟩
 · injection h with h; injection h with h _; subst h; exact ⟨Nat.zero_le _, Nat.zero_le _⟩
theorem numQ_lens {op : Nat} {ty a b : Int} {W W' : List Bs} {x : PIns} (h : numQ op ty a b W = some (x, W')) : x.args.length ≤ W.length ∧ x.from_.length ≤ W.length := by
 unfold numQ at h
 cases hq : numberQ op W with
 | none => rw [hq] at h; cases h
 | some q =>
   rw [hq] at h
   have h1 := numberQ_len hq
   have h2 := argQ_lens h
   omega
theorem bodyQ_lens {op : Nat} {ty : Int} {W W' : List Bs} {x : PIns} (h : bodyQ op ty W = some (x, W')) : x.args.length ≤ W.length ∧ x.from_.length ≤ W.length := by
 unfold bodyQ at h
 cases hq : regQ op W with
 | none => rw [hq] at h; cases h
 | some q =>
   rw [hq] at h
   have h2 := numQ_lens h
   have h1 : q.2.2.length ≤ W.length := by
    unfold regQ at hq
    split at hq
    · cases h3 : markQ 114 W with
      | none => rw [h3] at hq; cases hq
      | some z =>
        rw [h3] at hq
        obtain ⟨z', hz', e⟩ := Option.map_eq_some_iff.1 hq
        subst e
        have h4 := markQ_len h3
        have h5 := markQ_len hz'
        show z'.2.length ≤ _
        omega
    split at hq
    · obtain ⟨z', hz', e⟩ := Option.map_eq_some_iff.1 hq
      subst e
      have h5 := markQ_len hz'
      show z'.2.length ≤ _
      omega
    · injection hq with e; subst e; exact Nat.le_refl _
   omega
theorem opQ_lens {ans : Bool} {ty : Int} {W W' : List Bs} {x : PIns} (h : opQ ans ty W = some (x, W')) : x.args.length ≤ W.length ∧ x.from_.length ≤ W.length := by
 cases W with
 | nil => cases h
 | cons o r =>
   by_cases hc : opP o ≠ 0 ∧ hasT (opP o) 5 = ans
   · rw [opQ_yes hc] at h
     have := bodyQ_lens h
     simp only [List.length_cons]
     omega
   · rw [opQ_no hc] at h
     cases h
theorem insQ_lens {W W' : List Bs} {reg : Int} {x : PIns} (h : insQ W reg = some (x, W')) : x.args.length ≤ W.length ∧ x.from_.length ≤ W.length := by
 unfold insQ at h
 split at h
 · cases h1 : markQ 114 W with
   | none => rw [h1] at h; cases h
   | some q =>
     rw [h1] at h
     dsimp only at h
     split at h
     · cases h2 : markQ 116 q.2 with
       | none => rw [h2] at h; cases h
       | some q' =>
         rw [h2] at h
         have h3 := opQ_lens h
         have h4 := markQ_len h1
         have h5 := markQ_len h2
         rw [List.length_drop] at h3
         omega
     · cases h
 · exact opQ_lens h
theorem lineQ_some {α : Type} {o : Option (α × List Bs)} {a : α} (h : lineQ o = some a) : o = some (a, []) := by
 cases o with
 | none => cases h
 | some q =>
   obtain ⟨b, t⟩ := q
   cases t with
   | nil => injection h with h; subst h; rfl
   | cons c t => cases h
def InsFew (xs : List PIns) : Prop := ∀ x ∈ xs, x.args.length ≤ 64 ∧ x.from_.length ≤ 64
def Few64 (L : List (List Bs)) : Prop := ∀ ws ∈ L, ws.length ≤ 64
theorem blockQ_few : ∀ (L : List (List Bs)) (reg : Int) (q : List PIns × PEnd × List (List Bs)), Few64 L → blockQ L reg = some q → InsFew q.1 ∧ Few64 q.2.2
 | [], _, _, _, h => by cases h
 | l :: t, reg, q, hL, h => by
   have ht : Few64 t := fun ws hw => hL ws (List.mem_cons_of_mem _ hw)
   rw [blockQ_cons] at h
   split at h
   · obtain ⟨e, _, rfl⟩ := Option.map_eq_some_iff.1 h
     exact ⟨fun x hx => (by cases hx), ht⟩
   · split at h
     · rename_i x hx
       obtain ⟨q', hq', rfl⟩ := Option.map_eq_some_iff.1 h
       obtain ⟨h1, h2⟩ := blockQ_few t _ q' ht hq'
       have h3 := insQ_lens (lineQ_some hx)
       have h4 := hL l (List.mem_cons_self ..)
       refine ⟨fun y hy => ?_, h2⟩
       rcases List.mem_cons.1 hy with rfl | hy
       · omega
       · exact h1 y hy
     · cases h
def BlsFew (bs : List PBlk) : Prop := ∀ b ∈ bs, InsFew b.ins
theorem blocksR_few : ∀ (n : Nat) (L : List (List Bs)) (reg : Int) (z : List PBlk × List (List Bs)), L.length ≤ n → Few64 L → blocksR L reg = some z → BlsFew z.1 ∧ Few64 z.2
 | 0, L, reg, z, h, hL, hz => by
   have : L = [] := List.eq_nil_of_length_eq_zero (by omega)
   subst this
   have hz : some ([], []) = some z := hz
   injection hz with hz
   subst hz
   exact ⟨fun b hb => (by cases hb), hL⟩
 | n + 1, L, reg, z, h, hL, hz => by
   rw [blocksR_eq] at hz
   split at hz
   · split at hz
     · split at hz
       · rename_i q hq
         obtain ⟨z', hz', rfl⟩ := Option.map_eq_some_iff.1 hz
         have hl := blockQ_len _ _ _ hq
         rw [List.length_drop] at hl
         obtain ⟨h1, h2⟩ := blockQ_few _ _ _ (fun ws hw => hL ws (List.mem_of_mem_drop hw)) hq
         obtain ⟨h3, h4⟩ := blocksR_few n _ _ z' (by omega) h2 hz'
         refine ⟨fun b hb => ?_, h4⟩
         rcases List.mem_cons.1 hb with rfl | hb
         · exact h1
         · exact h3 b hb
       · cases hz
     · cases hz
   · injection hz with hz
     subst hz
     exact ⟨fun b hb => (by cases hb), hL⟩
def FuFew (n : Nat) (f : PFun) : Prop := f.blocks.length ≤ n ∧ BlsFew f.blocks ∧ ∀ b ∈ f.blocks, b.ins.length ≤ n
theorem sum_mem {l : List Nat} {a : Nat} (h : a ∈ l) : a ≤ l.sum := by
 induction l with
 | nil => cases h
 | cons b t ih =>
   rw [List.sum_cons]
   rcases List.mem_cons.1 h with rfl | h
   · omega
   · have := ih h; omega
theorem sum_len {α : Type} (f : α → Nat) (hf : ∀ a, 1 ≤ f a) (l : List α) : l.length ≤ (l.map f).sum := by
 induction l with
 | nil => exact Nat.le_refl _
 | cons b t ih =>
   rw [List.map_cons, List.sum_cons, List.length_cons]
   have := hf b
   omega
theorem functionQ_few {types : List Ty} {W : List Bs} {L : List (List Bs)} {q : PFun × List (List Bs)} (hL : Few64 L) (h : functionQ types W L = some q) : FuFew L.length q.1 ∧ Few64 q.2 ∧ q.2.length ≤ L.length := by
 have hl := functionQ_len h
 unfold functionQ at h
 split at h
 · obtain ⟨z, hz, rfl⟩ := Option.map_eq_some_iff.1 h
   obtain ⟨h1, h2⟩ := blocksR_few _ _ _ _ (Nat.le_refl _) hL hz
   refine ⟨⟨?_, h1, fun b hb => ?_⟩, h2, by show z.2.length ≤ _; dsimp only at hl; omega⟩
   · have := sum_len (fun b : PBlk => b.ins.length + 2) (fun b => by omega) z.1
     dsimp only at hl ⊢
     omega
   · have := sum_mem (List.mem_map_of_mem (f := fun b : PBlk => b.ins.length + 2) hb)
     dsimp only at hl this ⊢
     omega
 · cases h
theorem FuFew.more {n m : Nat} {f : PFun} (h : FuFew n f) (hn : n ≤ m) : FuFew m f := ⟨Nat.le_trans h.1 hn, h.2.1, fun b hb => Nat.le_trans (h.2.2 b hb) hn⟩
theorem funsR_few : ∀ (n : Nat) (types : List Ty) (L : List (List Bs)) (fs : List PFun), L.length ≤ n → Few64 L → funsR types L = some fs → fs.length ≤ L.length ∧ ∀ f ∈ fs, FuFew L.length f
 | _, types, [], fs, _, _, h => by
   have h : some [] = some fs := h
   injection h with h
   subst h
   exact ⟨Nat.le_refl _, fun f hf => by cases hf⟩
 | 0, _, _ :: _, _, h, _, _ => absurd h (by simp)
 | n + 1, types, l :: t, fs, hn, hL, h => by
   rw [funsR_cons] at h
   split at h
   · split at h
     · rename_i q hq
       obtain ⟨z, hz, rfl⟩ := Option.map_eq_some_iff.1 h
       obtain ⟨h1, h2, h3⟩ := functionQ_few (fun ws hw => hL ws (List.mem_cons_of_mem _ hw)) hq
       simp only [List.length_cons] at hn ⊢
       obtain ⟨h4, h5⟩ := funsR_few n types q.2 z (by omega) h2 hz
       refine ⟨by omega, fun f hf => ?_⟩
       rcases List.mem_cons.1 hf with rfl | hf
       · exact h1.more (by omega)
       · exact (h5 f hf).more (by omega)
     · cases h
   · cases h
theorem typesQ_few : ∀ (L : List (List Bs)) (z : List Ty × List (List Bs)), Few64 L → typesQ L = some z → (∀ t ∈ z.1, t.parts.length ≤ 64) ∧ Few64 z.2
 | [], z, hL, h => by
   have h : some ([], []) = some z := h
   injection h with h
   subst h
   exact ⟨fun t ht => (by cases ht), hL⟩
 | l :: t, z, hL, h => by
   rw [typesQ_cons] at h
   split at h
   · split at h
     · rename_i ty hty
       obtain ⟨z', hz', rfl⟩ := Option.map_eq_some_iff.1 h
       obtain ⟨h1, h2⟩ := typesQ_few t z' (fun ws hw => hL ws (List.mem_cons_of_mem _ hw)) hz'
       have h3 := kindQ_parts (lineQ_some hty)
       have h4 := hL l (List.mem_cons_self ..)
       rw [List.length_drop] at h3
       refine ⟨fun y hy => ?_, h2⟩
       rcases List.mem_cons.1 hy with rfl | hy
       · omega
       · exact h1 y hy
     · cases h
   · injection h with h
     subst h
     exact ⟨fun t ht => (by cases ht), hL⟩
structure PLim (n : Nat) (p : PProg) : Prop where
 types : p.types.length ≤ n
 parts : ∀ t ∈ p.types, t.parts.length ≤ 64
 many : p.funs.length ≤ n
 funs : ∀ f ∈ p.funs, FuFew n f
theorem programQ_few {L : List (List Bs)} {p : PProg} (hL : Few64 L) (h : programQ L = some p) : PLim L.length p := by
 unfold programQ at h
 split at h
 · rename_i z hz
   obtain ⟨fs, hfs, rfl⟩ := Option.map_eq_some_iff.1 h
   obtain ⟨h1, h2⟩ := typesQ_few L z hL hz
   have h3 := typesQ_len L z hz
   obtain ⟨h4, h5⟩ := funsR_few _ _ _ _ (Nat.le_refl _) h2 hfs
   exact ⟨by show z.1.length ≤ _; omega, h1, by show fs.length ≤ _; omega, fun f hf => (h5 f hf).more (by omega)⟩
 · cases h
theorem PLim.prog {n : Nat} {r : PrR} (h : PLim n r.data) (hn : n ≤ 20000) : PrLim r := by
 have hf : ∀ f ∈ r.funs, FuFew n f.data := fun f hf => h.funs _ (List.mem_map_of_mem (f := FuR.data) hf)
 refine ⟨fun t ht => ?_, fun f hfm => ?_, ?_⟩
 · have := h.parts _ (List.mem_map_of_mem (f := TyR.data) ht)
   have e : (TyR.data t).parts.length = t.parts.length := rfl
   omega
 · obtain ⟨h1, h2, h3⟩ := hf f hfm
   have e : f.data.blocks.length = f.blocks.length := List.length_map ..
   refine ⟨by omega, fun b hb => ?_, fun b hb x hx => ?_, fun b hb x hx => ?_⟩
   · have := h3 _ (List.mem_map_of_mem (f := BlR.data) hb)
     have e2 : (BlR.data b).ins.length = b.ins.length := List.length_map ..
     omega
   · have := (h2 _ (List.mem_map_of_mem (f := BlR.data) hb) _ (List.mem_map_of_mem (f := InR.data) hx)).1
     have e2 : (InR.data x).args.length = x.args.length := rfl
     omega
   · have := (h2 _ (List.mem_map_of_mem (f := BlR.data) hb) _ (List.mem_map_of_mem (f := InR.data) hx)).2
     have e2 : (InR.data x).from_.length = x.from_.length := rfl
     omega
 · have := h.many
   have e : r.data.funs.length = r.funs.length := List.length_map ..
   omega
section
variable {c : UInt8} {a : Bs} {r : List Bs} {n : Int}
theorem markQ_none (h : markP a c = none) : markQ c (a :: r) = none := by show (markP a c).map _ = _; rw [h]; rfl
theorem markQ_some (h : markP a c = some n) : markQ c (a :: r) = some (n, r) := by show (markP a c).map _ = _; rw [h]; rfl
theorem marksP_cons (c : UInt8) (a : Bs) (r : List Bs) : marksP c (a :: r) = (match markP a c with
    | some n => (match marksP c r with
      | some l => some (n :: l)
      | none => none)
    | none => none) := rfl
end
theorem kind_tie (W : List Bs) : lineQ (kindQ W) = kindP W := by
 cases W with
 | nil => rfl
 | cons k r =>
   rw [kindQ_cons]
   unfold kindP
   dsimp only
   by_cases h1 : k = bInt
   · rw [if_pos h1, if_neg (by rw [h1]; decide), if_pos h1]
     cases r with
     | nil => rfl
     | cons a t => rfl
   rw [if_neg h1]
   by_cases h2 : k = bPtr
   · rw [if_pos h2, if_neg (by rw [h2]; decide), if_neg h1, if_pos h2]
     match r with
     | [] => rfl
     | [a] =>
       cases hm : markP a 116 with
       | none => rw [markQ_none hm]; dsimp only; rw [hm]; rfl
       | some n => rw [markQ_some hm]; dsimp only; rw [hm]; rfl
     | a :: b :: t =>
       cases hm : markP a 116 with
       | none => rw [markQ_none hm]; rfl
       | some n => rw [markQ_some hm]; rfl
   rw [if_neg h2]
   by_cases h3 : k = bFn
   · rw [if_pos h3, if_neg (by rw [h3]; decide), if_neg h1, if_neg h2, if_pos h3]
     cases r with
     | nil => rfl
     | cons a t =>
       rw [marksP_cons]
       cases hm : markP a 116 with
       | none => rw [markQ_none hm]; rfl
       | some n =>
         rw [markQ_some hm]
         dsimp only
         unfold marksQ
         cases marksP 116 t with
         | none => rfl
         | some l => rfl
   rw [if_neg h3]
   by_cases h4 : k = bStruct
   · rw [if_pos h4, if_neg (by rw [h4]; decide), if_neg h1, if_neg h2, if_neg h3, if_pos h4]
     unfold marksQ
     cases marksP 116 r with
     | none => rfl
     | some l => rfl
   rw [if_neg h4]
   by_cases h5 : k = bArray
   · rw [if_pos h5, if_pos h5]
     match r with
     | [] => rfl
     | [a] =>
       cases hm : markP a 116 with
       | none => rw [markQ_none hm]; rfl
       | some n => rw [markQ_some hm]; rfl
     | [a, b] =>
       dsimp only
       cases hm : markP a 116 with
       | none => rw [markQ_none hm]; rfl
       | some n =>
         rw [markQ_some hm]
         show lineQ (((smallP b).map fun n => (n, ([] : List Bs))).map _) = _
         cases smallP b with
         | none => rfl
         | some m => rfl
     | a :: b :: d :: t =>
       cases hm : markP a 116 with
       | none => rw [markQ_none hm]; rfl
       | some n =>
         rw [markQ_some hm]
         show lineQ (((smallP b).map fun n => (n, d :: t)).map _) = _
         cases smallP b with
         | none => rfl
         | some m => rfl
   rw [if_neg h5, if_neg h5, if_neg h1, if_neg h2, if_neg h3, if_neg h4]
   rfl
theorem end_tie {W : List Bs} (h : isEndP (W.headD []) = true) : lineQ (endQ W) = endP W := by
 cases W with
 | nil => cases h
 | cons k r =>
   rw [endQ_cons]
   unfold endP
   dsimp only
   by_cases h1 : k = bJump
   · rw [if_pos h1, if_pos h1]
     match r with
     | [] => rfl
     | [a] =>
       cases hm : markP a 98 with
       | none => rw [markQ_none hm]; dsimp only; rw [hm]; rfl
       | some n => rw [markQ_some hm]; dsimp only; rw [hm]; rfl
     | a :: b :: t =>
       cases hm : markP a 98 with
       | none => rw [markQ_none hm]; rfl
       | some n => rw [markQ_some hm]; rfl
   rw [if_neg h1, if_neg h1]
   by_cases h2 : k = bReturn
   · rw [if_neg (by rw [h2]; decide), if_pos h2]
     match r with
     | [] => rfl
     | [a] =>
       cases hm : markP a 114 with
       | none => rw [markQ_none hm]; dsimp only; rw [hm]; rfl
       | some n => rw [markQ_some hm]; dsimp only; rw [hm]; rfl
     | a :: b :: t =>
       cases hm : markP a 114 with
       | none => rw [markQ_none hm]; rfl
       | some n => rw [markQ_some hm]; rfl
   rw [if_neg h2]
   have h3 : k = bBranch := by
    unfold isEndP at h
    have h : (k == bJump || k == bBranch || k == bReturn) = true := h
    rw [Bool.or_eq_true, Bool.or_eq_true, beq_iff_eq, beq_iff_eq, beq_iff_eq] at h
    rcases h with (h | h) | h
    · exact absurd h h1
    · exact h
    · exact absurd h h2
   rw [if_pos h3]
   match r with
   | [] => rfl
   | [a] =>
     cases hm : markP a 114 with
     | none => rw [markQ_none hm]; rfl
     | some n => rw [markQ_some hm]; rfl
   | [a, b] =>
     cases hm : markP a 114 with
     | none => rw [markQ_none hm]; rfl
     | some n =>
       rw [markQ_some hm]
       dsimp only
       cases hm2 : markP b 98 with
       | none => rw [markQ_none hm2]; rfl
       | some m => rw [markQ_some hm2]; rfl
   | [a, b, d] =>
     dsimp only
     cases hm : markP a 114 with
     | none => rw [markQ_none hm]; rfl
     | some n =>
       rw [markQ_some hm]
       dsimp only
       cases hm2 : markP b 98 with
       | none => rw [markQ_none hm2]; rfl
       | some m =>
         rw [markQ_some hm2]
         dsimp only
         cases hm3 : markP d 98 with
         | none => rw [markQ_none hm3]; rfl
         | some q => rw [markQ_some hm3]; rfl
   | a :: b :: d :: e :: t =>
     cases hm : markP a 114 with
     | none => rw [markQ_none hm]; rfl
     | some n =>
       rw [markQ_some hm]
       dsimp only
       cases hm2 : markP b 98 with
       | none => rw [markQ_none hm2]; rfl
       | some m =>
         rw [markQ_some hm2]
         dsimp only
         cases hm3 : markP d 98 with
         | none => rw [markQ_none hm3]; rfl
         | some q => rw [markQ_some hm3]; rfl
theorem reg_tie (op : Nat) (W : List Bs) : regQ op W = regP op W := by
 unfold regQ regP
 by_cases h1 : hasT op 1 = true
 · rw [if_pos h1, if_pos h1]
   match W with
   | [] => rfl
   | [a] =>
     cases hm : markP a 114 with
     | none => rw [markQ_none hm]
     | some n => rw [markQ_some hm]; rfl
   | a :: b :: t =>
     dsimp only
     cases hm : markP a 114 with
     | none => rw [markQ_none hm]
     | some n =>
       rw [markQ_some hm]
       dsimp only
       cases hm2 : markP b 114 with
       | none => rw [markQ_none hm2]; rfl
       | some m => rw [markQ_some hm2]; rfl
 rw [if_neg h1, if_neg h1]
 by_cases h0 : hasT op 0 = true
 · rw [if_pos h0, if_pos h0]
   cases W with
   | nil => rfl
   | cons a t =>
     dsimp only
     cases hm : markP a 114 with
     | none => rw [markQ_none hm]; rfl
     | some n => rw [markQ_some hm]; rfl
 · rw [if_neg h0, if_neg h0]
theorem num_has : ∀ k, k < 23 → (hasT k 2 = true ↔ k = 1 ∨ k = 3 ∨ k = 18 ∨ k = 14) := by decide
theorem arg_has : ∀ k, k < 23 → (hasT k 3 = true ↔ k = 18 ∨ k = 19 ∨ k = 22) := by decide
theorem number_tie {op : Nat} (h : op < 23) (W : List Bs) : numberQ op W = numW op W := by
 unfold numberQ numW
 by_cases h2 : hasT op 2 = true
 · rw [if_pos h2]
   rcases (num_has op h).1 h2 with rfl | rfl | rfl | rfl
   · rw [if_pos rfl]
     cases W <;> rfl
   · rw [if_neg (by decide), if_pos (by decide)]
     cases W <;> rfl
   · rw [if_neg (by decide), if_pos (by decide)]
     cases W <;> rfl
   · rw [if_neg (by decide), if_neg (by decide), if_pos rfl]
     cases W <;> rfl
 · rw [if_neg h2]
   have h3 := mt (num_has op h).2 h2
   rw [if_neg (by omega), if_neg (by omega), if_neg (by omega)]
theorem phi_regs : hasT 22 0 = false ∧ hasT 22 1 = false ∧ hasT 22 2 = false := by decide
theorem body_tie {op : Nat} (h : op < 23) (ty : Int) (W : List Bs) : lineQ (bodyQ op ty W) = hasP op ty W := by
 unfold bodyQ hasP
 by_cases h22 : op = 22
 · subst h22
   rw [if_pos rfl]
   have hr : regQ 22 W = some (0, 0, W) := by
    unfold regQ
    rw [if_neg (by rw [phi_regs.2.1]; decide), if_neg (by rw [phi_regs.1]; decide)]
   rw [hr]
   dsimp only
   unfold numQ
   rw [number_tie (by decide)]
   unfold numW
   rw [if_neg (by rw [phi_regs.2.2]; decide)]
   dsimp only
   unfold argQ
   rw [if_neg (by decide), if_pos rfl]
   cases phiP W with
   | none => rfl
   | some q => rfl
 · rw [if_neg h22, reg_tie]
   cases regP op W with
   | none => rfl
   | some q =>
     obtain ⟨a, b, w1⟩ := q
     dsimp only
     unfold numQ
     rw [number_tie h]
     cases numW op w1 with
     | none => rfl
     | some q2 =>
       obtain ⟨n, w2⟩ := q2
       dsimp only
       unfold argQ argsW
       by_cases h3 : hasT op 3 = true
       · have h4 := (arg_has op h).1 h3
         rw [if_pos (by omega), if_pos h3]
         unfold marksQ
         cases marksP 114 w2 with
         | none => rfl
         | some l => rfl
       · have h4 := mt (arg_has op h).2 h3
         rw [if_neg (by omega), if_neg h22, if_neg h3]
         cases w2 with
         | nil => rfl
         | cons x t => rfl
theorem opP_lt (w : Bs) : opP w < 23 := by
 unfold opP
 split
 · assumption
 · decide
theorem plain_tie (W : List Bs) : lineQ (opQ false 0 W) = plainP W := by
 cases W with
 | nil => rfl
 | cons o r =>
   unfold plainP
   dsimp only
   by_cases h : opP o ≠ 0 ∧ hasT (opP o) 5 = false
   · rw [opQ_yes h, if_pos h, body_tie (opP_lt o)]
   · rw [opQ_no h, if_neg h]
     rfl
theorem opP_word {w : Bs} (h : opP w ≠ 0) : opWords.getD (opP w) [] = w := by
 unfold opP at h ⊢
 by_cases hc : opWords.idxOf w < 23
 · rw [if_pos hc]
   have hl : opWords.idxOf w < opWords.length := hc
   rw [List.getD_eq_getElem?_getD, List.getElem?_eq_getElem hl]
   exact List.getElem_idxOf hl
 · rw [if_neg hc] at h
   exact absurd rfl h
theorem head_r : ∀ k, k < 23 → (opWords.getD k []).head? = some 114 → hasT k 5 = true := by decide
theorem no_five : ∀ k, k < 23 → k ≠ 0 → hasT k 5 = false → k = 13 ∨ k = 17 ∨ k = 21 := by decide
theorem five_pos : ∀ k, k < 23 → hasT k 5 = true → k ≠ 0 := by decide
theorem plain_eq_none {w t : Bs} {o : Bs} {rest : List Bs} : plainP (w :: t :: bEq :: o :: rest) = none := by
 unfold plainP
 dsimp only
 by_cases h : opP w ≠ 0 ∧ hasT (opP w) 5 = false
 · rw [if_pos h]
   have hk := no_five _ (opP_lt w) h.1 h.2
   have he : markP bEq 114 = none := by decide
   rcases hk with hk | hk | hk
   · rw [hk]
     unfold hasP
     rw [if_neg (by decide)]
     unfold regP
     rw [if_neg (by decide), if_pos (by decide)]
     dsimp only
     cases markP t 114 with
     | none => rfl
     | some a => rfl
   · rw [hk]
     unfold hasP
     rw [if_neg (by decide)]
     unfold regP
     rw [if_pos (by decide)]
     dsimp only
     rw [he]
     cases markP t 114 with
     | none => rfl
     | some a => rfl
   · rw [hk]
     unfold hasP
     rw [if_neg (by decide)]
     unfold regP
     rw [if_neg (by decide), if_pos (by decide)]
     dsimp only
     cases markP t 114 with
     | none => rfl
     | some a => rfl
 · rw [if_neg h]
theorem markP_head {r : Bs} {n : Int} {c : UInt8} (h : markP r c = some n) : r.head? = some c := by
 cases r with
 | nil => cases h
 | cons d t =>
   unfold markP at h
   by_cases hd : d = c
   · rw [hd]; rfl
   · have h : (if d = c then smallP t else none) = some n := h
     rw [if_neg hd] at h
     cases h
theorem ins_tie (W : List Bs) (reg : Int) : lineQ (insQ W reg) = insP W reg := by
 unfold insQ
 match W with
 | [] => exact (congrArg lineQ (if_neg (show ¬ answersB [] = true from fun h => by cases h))).trans (plain_tie _)
 | [a] => exact (congrArg lineQ (if_neg (show ¬ answersB [a] = true from fun h => by cases h))).trans (plain_tie _)
 | [a, b] => exact (congrArg lineQ (if_neg (show ¬ answersB [a, b] = true from fun h => by cases h))).trans (plain_tie _)
 | [a, b, e] =>
   show lineQ (if (a.head? == some 114 && e == bEq) = true then _ else _) = plainP [a, b, e]
   by_cases h : (a.head? == some 114 && e == bEq) = true
   · rw [if_pos h]
     rw [Bool.and_eq_true, beq_iff_eq, beq_iff_eq] at h
     have hp : plainP [a, b, e] = none := by
      unfold plainP
      dsimp only
      refine if_neg fun hc => ?_
      have h1 := opP_word hc.1
      have h2 := head_r _ (opP_lt a) (by rw [h1]; exact h.1)
      rw [h2] at hc
      cases hc.2
     rw [hp]
     cases hm : markP a 114 with
     | none => rw [markQ_none hm]; rfl
     | some n =>
       rw [markQ_some hm]
       dsimp only
       split
       · cases hm2 : markP b 116 with
         | none => rw [markQ_none hm2]; rfl
         | some m => rw [markQ_some hm2]; rfl
       · rfl
   · rw [if_neg h]
     exact plain_tie _
 | a :: b :: e :: o :: rest =>
   show lineQ (if (a.head? == some 114 && e == bEq) = true then _ else _) = (if e = bEq then _ else _)
   by_cases he : e = bEq
   · rw [if_pos he]
     subst he
     by_cases h : a.head? = some 114
     · rw [if_pos (by rw [Bool.and_eq_true, beq_iff_eq, beq_iff_eq]; exact ⟨h, rfl⟩)]
       cases hm : markP a 114 with
       | none => rw [markQ_none hm]; rfl
       | some n =>
         rw [markQ_some hm]
         dsimp only
         cases hm2 : markP b 116 with
         | none =>
           rw [markQ_none hm2]
           dsimp only
           split <;> rfl
         | some ty =>
           rw [markQ_some hm2]
           dsimp only
           by_cases hn : n = reg
           · rw [if_pos hn]
             show lineQ (opQ true ty (o :: rest)) = _
             by_cases h5 : hasT (opP o) 5 = true
             · rw [opQ_yes ⟨five_pos _ (opP_lt o) h5, h5⟩, body_tie (opP_lt o), if_pos ⟨hn, h5⟩]
             · rw [opQ_no (fun hc => h5 hc.2), if_neg (fun hc => h5 hc.2)]
               rfl
           · rw [if_neg hn, if_neg (fun hc => hn hc.1)]
             rfl
     · rw [if_neg (by rw [Bool.and_eq_true, beq_iff_eq]; exact fun hc => h hc.1)]
       have hm : markP a 114 = none := by
        cases hm : markP a 114 with
        | none => rfl
        | some n => exact absurd (markP_head hm) h
       rw [hm, plain_tie, plain_eq_none]
   · rw [if_neg he, if_neg (by rw [Bool.and_eq_true, beq_iff_eq, beq_iff_eq]; exact fun hc => he hc.2)]
     exact plain_tie _
section
variable {W : World} {g : Nat} {t : TypeId} {x0 x1 x2 x3 x4 x5 x6 : Value}
theorem Blk.two (h : Blk W g t #[x0, x1]) : W.cell? ⟨g, 0, none⟩ = some x0 ∧ W.cell? ⟨g, 1, none⟩ = some x1 := ⟨h.cells 0, h.cells 1⟩
theorem Blk.four (h : Blk W g t #[x0, x1, x2, x3]) : W.cell? ⟨g, 0, none⟩ = some x0 ∧ W.cell? ⟨g, 1, none⟩ = some x1 ∧ W.cell? ⟨g, 2, none⟩ = some x2 ∧ W.cell? ⟨g, 3, none⟩ = some x3 := ⟨h.cells 0, h.cells 1, h.cells 2, h.cells 3⟩
theorem Blk.five (h : Blk W g t #[x0, x1, x2, x3, x4]) : W.cell? ⟨g, 0, none⟩ = some x0 ∧ W.cell? ⟨g, 1, none⟩ = some x1 ∧ W.cell? ⟨g, 2, none⟩ = some x2 ∧ W.cell? ⟨g, 3, none⟩ = some x3 ∧ W.cell? ⟨g, 4, none⟩ = some x4 := ⟨h.cells 0, h.cells 1, h.cells 2, h.cells 3, h.cells 4⟩
theorem Blk.seven (h : Blk W g t #[x0, x1, x2, x3, x4, x5, x6]) : W.cell? ⟨g, 0, none⟩ = some x0 ∧ W.cell? ⟨g, 1, none⟩ = some x1 ∧ W.cell? ⟨g, 2, none⟩ = some x2 ∧ W.cell? ⟨g, 3, none⟩ = some x3 ∧ W.cell? ⟨g, 4, none⟩ = some x4 ∧ W.cell? ⟨g, 5, none⟩ = some x5 ∧ W.cell? ⟨g, 6, none⟩ = some x6 := ⟨h.cells 0, h.cells 1, h.cells 2, h.cells 3, h.cells 4, h.cells 5, h.cells 6⟩
end
theorem rmark_is (s : ByteArray) (c : UInt8) (w : World) : Calls Tryz.prog 65 #[.string s, .int .u8 (c.toNat : Int)] w fun e w' => e = .returned (.tuple #[.int .i64 ((markP (toL s) c).getD 0), .int .i64 (errN (markP (toL s) c))]) ∧ Below w.heap.size w w' := by
 have h := rmark_any s c ((numP ((toL s).drop 1)).getD 0) (errN (numP ((toL s).drop 1))) (numP_told _) w
 have e : markOf s.data.toList c ((numP ((toL s).drop 1)).getD 0) (errN (numP ((toL s).drop 1))) = ((markP (toL s) c).getD 0, errN (markP (toL s) c)) := mark_told (toL s) c
 rw [e] at h
 exact h
theorem rsmall2_is (s : ByteArray) (w : World) : Calls Tryz.prog 104 #[.string s, .int .i64 999] w fun e w' => e = .returned (.tuple #[.int .i64 ((smallP (toL s)).getD 0), .int .i64 (errN (smallP (toL s)))]) ∧ Below w.heap.size w w' := by
 have h := rsmall_is s _ _ 999 (numP_told (toL s)) w
 rw [(sm_told (toL s)).1, (sm_told (toL s)).2] at h
 exact h
theorem rread2_is (s : ByteArray) (w : World) : Calls Tryz.prog 140 #[.string s] w fun e w' => e = .returned (.tuple #[.int .i64 ((numP (toL s)).getD 0), .int .i64 (errN (numP (toL s)))]) ∧ Below w.heap.size w w' := rread_is s _ _ (numP_told (toL s)) w
theorem opS_at {k : Nat} (h : k < 23) : toL (opS.getD k ⟨#[]⟩) = opWords.getD k [] := by
 rw [← opS_words, map_getDs]
theorem rword_any (op : Nat) (h : op < 23) (w : World) : Calls Tryz.prog 123 #[.int .u8 (op : Int)] w fun e w' => e = .returned (.string (opS.getD op ⟨#[]⟩)) ∧ Below w.heap.size w w' := by
 have hb := Blk.new w 9 (opS.map Value.string).toArray
 have hc : (w.alloc (.cells (opS.map Value.string).toArray 9)).cell? ⟨w.heap.size, op, none⟩ = some (.string (opS.getD op ⟨#[]⟩)) := by
  rw [hb.cells op, List.getElem?_toArray, List.getElem?_map, List.getD_eq_getElem?_getD]
  have hl : op < opS.length := h
  rw [List.getElem?_eq_getElem hl]
  rfl
 have q0 : (0 : Int) ≤ (op : Int) := Int.natCast_nonneg _
 have q1 : (op : Int) < 23 := by omega
 have q2 : (op : Int) ≤ 255 := by omega
 obtain ⟨z, hz⟩ : ∃ z, opS.getD op ⟨#[]⟩ = z := ⟨_, rfl⟩
 rw [hz] at hc ⊢
 have hc : (w.alloc (.cells #[.string ⟨#[]⟩, .string ⟨#[105, 110, 116]⟩, .string ⟨#[110, 117, 108, 108]⟩, .string ⟨#[102, 110]⟩, .string ⟨#[97, 100, 100]⟩, .string ⟨#[115, 117, 98]⟩, .string ⟨#[109, 117, 108]⟩, .string ⟨#[100, 105, 118]⟩, .string ⟨#[108, 101, 115, 115]⟩, .string ⟨#[101, 113]⟩, .string ⟨#[115, 97, 109, 101]⟩, .string ⟨#[110, 101, 119]⟩, .string ⟨#[108, 111, 99, 97, 108]⟩, .string ⟨#[102, 114, 101, 101]⟩, .string ⟨#[102, 105, 101, 108, 100]⟩, .string ⟨#[101, 108, 101, 109]⟩, .string ⟨#[108, 111, 97, 100]⟩, .string ⟨#[115, 116, 111, 114, 101]⟩, .string ⟨#[99, 97, 108, 108]⟩, .string ⟨#[105, 99, 97, 108, 108]⟩, .string ⟨#[114, 101, 97, 100]⟩, .string ⟨#[112, 114, 105, 110, 116]⟩, .string ⟨#[112, 104, 105]⟩] 9)).cell? ⟨w.heap.size, op, none⟩ = some (.string z) := hc
 clear hb hz h
 go_enter Tryz.func123, Tryz.ntmps123
 go_wp2_with fail
 go_ret
 exact ⟨rfl, (Below.refl _ _).alloc (Nat.le_refl _) _⟩
theorem word_pos : ∀ k, k < 23 → k ≠ 0 → opWords.getD k [] ≠ [] := by decide
theorem idx_op_at {l : List Bs} {b : Bs} {k : Nat} (hk : k < l.length) (h : l.getD k [] = b) (hn : ∀ i, i < k → l.getD i [] ≠ b) : l.idxOf b = k := by
 have h1 := idx_at hk h hn
 unfold idxS at h1
 split at h1
 · omega
 · omega
theorem opP_at {b : Bs} {k : Nat} (h1 : 1 ≤ k) (h2 : k < 23) (h : opWords.getD k [] = b) (hn : ∀ j, 1 ≤ j → j < k → opWords.getD j [] ≠ b) : opP b = k := by
 have e : opWords.idxOf b = k := idx_op_at h2 h (fun i hi => by
  by_cases h0 : i = 0
  · subst h0
    rw [← h]
    exact fun e => word_pos k h2 (by omega) e.symm
  · exact hn i (by omega) hi)
 unfold opP
 rw [e, if_pos h2]
theorem opP_no {b : Bs} (hn : ∀ j, 1 ≤ j → j < 23 → opWords.getD j [] ≠ b) : opP b = 0 := by
 unfold opP
 by_cases hc : opWords.idxOf b < 23
 · rw [if_pos hc]
   by_cases h0 : opWords.idxOf b = 0
   · exact h0
   · exfalso
     have hl : opWords.idxOf b < opWords.length := hc
     refine hn _ (by omega) hc ?_
     rw [List.getD_eq_getElem?_getD, List.getElem?_eq_getElem hl]
     exact List.getElem_idxOf hl
 · rw [if_neg hc]
theorem roperation_any (s : ByteArray) (w : World) : Calls Tryz.prog 164 #[.string s] w fun e w' => e = .returned (.int .u8 (opP (toL s) : Nat)) ∧ Below w.heap.size w w' := by
 have HW := Lib.hid (fun (k : Nat) (h : k < 23) (W : World) => rword_any k h W)
 go_enter Tryz.func164, Tryz.ntmps164
 go_wp2_with fail
 go_loopw [3] (fun i wr => ∃ k : Nat, 1 ≤ k ∧ k ≤ 23 ∧ i = .int .u8 k ∧ Hid (∀ j, 1 ≤ j → j < k → opWords.getD j [] ≠ toL s) ∧ Hid (Below w.heap.size w wr)) (fun i _ => 23 - (intOf i).toNat)
 case atStart => exact ⟨1, Nat.le_refl _, by decide, rfl, Lib.hid (fun j h1 h2 => absurd h1 (by omega)), Lib.hid (Below.refl _ _)⟩
 case round =>
  obtain ⟨k, hk1, hk2, rfl, HN, HB⟩ := hrel
  by_cases hlt : k ≤ 22
  · have q1 : (k : Int) ≤ 22 := by omega
    have HK := Lib.hid hlt
    have HK1 := Lib.hid hk1
    have HWK := Lib.hid (fun W => HW.out k (by omega) W)
    by_cases he : opWords.getD k [] = toL s
    · have heq : ((opS.getD k ⟨#[]⟩).toList == s.toList) = true := by
       rw [ByteArray.toList_eq, ByteArray.toList_eq]
       exact beq_iff_eq.2 ((opS_at (by omega)).trans he)
      have HQ : Hid (opP (toL s) = k) := Lib.hid (opP_at hk1 (by omega) he HN.out)
      clear he
      generalize opS.getD k ⟨#[]⟩ = z at *
      go_wp2_with (go_at_call 123; refine (HWK.out _).mono ?_; rintro e w1 ⟨rfl, hb⟩; have HB1 := Lib.hid (HB.out.trans (hb.mono HB.out.size)); clear hb)
      go_ret
      exact ⟨by rw [HQ.out]; rfl, HB1.out⟩
    · have heq : ((opS.getD k ⟨#[]⟩).toList == s.toList) = false := by
       rw [ByteArray.toList_eq, ByteArray.toList_eq]
       exact beq_eq_false_iff_ne.2 (fun e => he ((opS_at (by omega)).symm.trans e))
      have HQ : Hid (∀ j, 1 ≤ j → j < k + 1 → opWords.getD j [] ≠ toL s) := Lib.hid (fun j h1 h2 => by
       by_cases hj : j = k
       · rw [hj]; exact he
       · exact HN.out j h1 (by omega))
      have hw8 : IntKind.u8.wrap ((k : Int) + 1) = (k : Int) + 1 := by
       have hall : ∀ k, k < 23 → IntKind.u8.wrap (((k : Nat) : Int) + 1) = ((k : Nat) : Int) + 1 := by decide
       exact hall k (by omega)
      clear he
      generalize opS.getD k ⟨#[]⟩ = z at *
      go_wp2_with (go_at_call 123; refine (HWK.out _).mono ?_; rintro e w1 ⟨rfl, hb⟩; have HB1 := Lib.hid (HB.out.trans (hb.mono HB.out.size)); clear hb)
      go_roundw
      case rel => exact ⟨k + 1, by omega, by omega, by go_num, HQ, HB1⟩
      case measure => simp [intOf]; omega
  · obtain rfl : k = 23 := by omega
    have HQ : Hid (opP (toL s) = 0) := Lib.hid (opP_no HN.out)
    go_wp2_with fail
    go_ret
    exact ⟨by rw [HQ.out]; rfl, HB.out⟩
def RfMarks (w : World) (o : Option (List Int)) (e : Ending) (w' : World) : Prop :=
 Below w.heap.size w w' ∧ match o with
 | some l => ∃ A c, e = .returned (.tuple #[.slice A l.length c, .bool true]) ∧ OwnInts w' w.heap.size (.slice A l.length c) l
 | none => e = .returned (.tuple #[.slice none 0 0, .bool false])
theorem rmarks_any {w : World} {x : LnR} (hx : x.At w) (c : UInt8) (h64 : x.xs.length ≤ 20000) : Calls Tryz.prog 105 #[.slice x.a x.xs.length x.c, .int .u8 (c.toNat : Int)] w (RfMarks w (marksP c x.data)) := by
 have HS := Lib.hid hx.strs
 obtain ⟨A, ca, xs⟩ := x
 dsimp only at *
 have hlc := hx.hdr.cle
 have HMK := Lib.hid (fun (s : ByteArray) (W : World) => rmark_is s c W)
 have HD : Hid ((⟨A, ca, xs⟩ : LnR).data = xs.map toL) := Lib.hid rfl
 rw [HD.out]
 clear hx
 dsimp only at hlc
 go_enter Tryz.func105, Tryz.ntmps105
 go_wp2_with fail
 go_loopw [6, 7] (fun v i wr => ∃ (k : Nat) (ys : List Int), k ≤ xs.length ∧ i = .int .i64 k ∧ Hid (OwnInts wr w.heap.size v ys) ∧ Hid (MarksTo c (xs.map toL) ys ((xs.map toL).drop k)) ∧ Hid (ys.length = k) ∧ Hid (Below w.heap.size w wr)) (fun _ i _ => xs.length - (intOf i).toNat)
 case atStart => exact ⟨0, [], Nat.zero_le _, rfl, Lib.hid (OwnInts.nil _ _), Lib.hid (MarksTo.start _ _), Lib.hid rfl, Lib.hid (Below.refl _ _)⟩
 case round =>
  obtain ⟨k, ys, hk, rfl, HO, HM, HYL, HB⟩ := hrel
  obtain ⟨Ay, cy, hv, _⟩ := HO.out.form
  subst hv
  by_cases hlt : k < xs.length
  · obtain ⟨b, off, s, hA, hb, hcell, HE⟩ := HS.out.elem hlt
    have hA : A = some ⟨b, off, none⟩ := hA
    subst hA
    have hc1 := (HB.out.cell (p := ⟨b, off + k, none⟩) hb).trans hcell
    have hdr : (xs.map toL).drop k = toL s :: (xs.map toL).drop (k + 1) := by
     rw [List.drop_eq_getElem_cons (by rw [List.length_map]; exact hlt)]
     congr 1
     have h1 := HE.out
     rw [List.getD_eq_getElem?_getD, List.getElem?_eq_getElem hlt] at h1
     rw [List.getElem_map]
     exact congrArg toL h1
    have HM2 := Lib.hid (hdr ▸ HM.out)
    have q0 : (0 : Int) ≤ (k : Int) := Int.natCast_nonneg _
    have q1 : (k : Int) < (xs.length : Int) := by omega
    have HMS := Lib.hid (HMK.out s)
    clear hcell HE hdr
    cases hm : markP (toL s) c with
    | none =>
      have HI : Hid (marksP c (xs.map toL) = none) := Lib.hid (HM2.out.stop hm)
      rw [hm] at HMS
      dsimp only [Option.getD, errN] at HMS
      clear hm
      go_wp2_with (go_at_call 65; refine (HMS.out _).mono ?_; rintro e w1 ⟨rfl, hb1⟩; have HB1 := Lib.hid (HB.out.trans (hb1.mono HB.out.size)); clear hb1)
      go_ret2
      exact ⟨HB1.out, by rw [HI.out]; rfl⟩
    | some n =>
      have HN := Lib.hid (HM2.out.step hm)
      rw [hm] at HMS
      dsimp only [Option.getD, errN] at HMS
      have HLT := Lib.hid hlt
      clear hm hlt
      go_wp2_with (first
       | (go_at_call 65; refine (HMS.out _).mono ?_; rintro e w1 ⟨rfl, hb1⟩; have HB1 := Lib.hid (HB.out.trans (hb1.mono HB.out.size)); have HO1 := Lib.hid (HO.out.keep hb1); clear hb1)
       | (at_builtin; refine wpList_app1 rfl (.tmp 27) (.tmp 29) rfl w.heap.size _ _ rfl n HO1.out rfl (by have := HYL.out; omega) HB1.out.size ?_; intro v' w4 hown4 hg4; refine pause ?_))
      have HB4 := Lib.hid (Below.grown (HB1.out.alloc HB1.out.size (.cells #[.int .i64 n] 3)) hg4 (by rw [World.size_alloc]; have := HB1.out.size; omega) (own_base HO1.out))
      have HO4 := Lib.hid hown4
      clear hown4 hg4
      refine resume ?_
      go_wp2_with fail
      go_roundw
      case rel => exact ⟨k + 1, ys ++ [n], by have := HLT.out; omega, by go_num, HO4, HN, Lib.hid (by rw [List.length_append, HYL.out]; rfl), HB4⟩
      case measure => simp [intOf]; have := HLT.out; omega
  · obtain rfl : k = xs.length := by omega
    have HI : Hid (marksP c (xs.map toL) = some ys) := Lib.hid (by
     have h1 := HM.out
     rw [← List.length_map (f := toL), List.drop_length] at h1
     exact h1.done)
    go_wp2_with fail
    go_ret2
    exact ⟨HB.out, by rw [HI.out]; exact ⟨Ay, cy, rfl, HO.out⟩⟩
theorem rnum7_any (op : Nat) (s : ByteArray) (w : World) : Calls Tryz.prog 176 #[.int .u8 (op : Int), .string s] w fun e w' => e = .returned (.tuple #[.int .i64 ((numberP op (toL s)).getD 0), .bool (numberP op (toL s)).isSome]) ∧ Below w.heap.size w w' := by
 have key : ∀ o : Option Int, (errN o == 0) = o.isSome := fun o => by cases o <;> rfl
 unfold numberP
 by_cases h1 : op = 1
 · subst h1
   rw [if_pos rfl]
   have HR := Lib.hid (fun W => rread2_is s W)
   have HK := key (numP (toL s))
   obtain ⟨er, her⟩ : ∃ er, errN (numP (toL s)) = er := ⟨_, rfl⟩
   rw [her] at HR HK
   obtain ⟨z, hz⟩ : ∃ z, (numP (toL s)).isSome = z := ⟨_, rfl⟩
   rw [hz] at HK ⊢
   obtain ⟨n, hn⟩ : ∃ n, (numP (toL s)).getD 0 = n := ⟨_, rfl⟩
   rw [hn] at HR ⊢
   clear key her hz hn
   go_enter Tryz.func176, Tryz.ntmps176
   go_wp2_with (go_at_call 140; refine (HR.out _).mono ?_; rintro e w1 ⟨rfl, hb⟩; have HB := Lib.hid hb; clear hb)
   go_ret2
   exact ⟨rfl, HB.out⟩
 · rw [if_neg h1]
   have q1 : ¬ (op : Int) = 1 := by omega
   by_cases h2 : op = 14
   · subst h2
     rw [if_pos rfl]
     have HR := Lib.hid (fun W => rsmall2_is s W)
     have HK := key (smallP (toL s))
     obtain ⟨er, her⟩ : ∃ er, errN (smallP (toL s)) = er := ⟨_, rfl⟩
     rw [her] at HR HK
     obtain ⟨z, hz⟩ : ∃ z, (smallP (toL s)).isSome = z := ⟨_, rfl⟩
     rw [hz] at HK ⊢
     obtain ⟨n, hn⟩ : ∃ n, (smallP (toL s)).getD 0 = n := ⟨_, rfl⟩
     rw [hn] at HR ⊢
     clear key her hz hn h1 q1
     go_enter Tryz.func176, Tryz.ntmps176
     go_wp2_with (go_at_call 104; refine (HR.out _).mono ?_; rintro e w1 ⟨rfl, hb⟩; have HB := Lib.hid hb; clear hb)
     go_ret2
     exact ⟨rfl, HB.out⟩
   · rw [if_neg h2]
     have q2 : ¬ (op : Int) = 14 := by omega
     have HR := Lib.hid (fun W => rmark_is s 102 W)
     rw [show ((102 : UInt8).toNat : Int) = 102 from rfl] at HR
     have HK := key (markP (toL s) 102)
     obtain ⟨er, her⟩ : ∃ er, errN (markP (toL s) 102) = er := ⟨_, rfl⟩
     rw [her] at HR HK
     obtain ⟨z, hz⟩ : ∃ z, (markP (toL s) 102).isSome = z := ⟨_, rfl⟩
     rw [hz] at HK ⊢
     obtain ⟨n, hn⟩ : ∃ n, (markP (toL s) 102).getD 0 = n := ⟨_, rfl⟩
     rw [hn] at HR ⊢
     clear key her hz hn h1 h2
     go_enter Tryz.func176, Tryz.ntmps176
     go_wp2_with (go_at_call 65; refine (HR.out _).mono ?_; rintro e w1 ⟨rfl, hb⟩; have HB := Lib.hid hb; clear hb)
     go_ret2
     exact ⟨rfl, HB.out⟩
theorem risEnd_any (s : ByteArray) (w : World) : Calls Tryz.prog 141 #[.string s] w fun e w' => e = .returned (.bool (isEndP (toL s))) ∧ w' = w := by
 have key : ∃ b1 b2 b3 : Bool, (s.toList == [106, 117, 109, 112]) = b1 ∧ (s.toList == [98, 114, 97, 110, 99, 104]) = b2 ∧ (s.toList == [114, 101, 116, 117, 114, 110]) = b3 := ⟨_, _, _, rfl, rfl, rfl⟩
 obtain ⟨b1, b2, b3, h1, h2, h3⟩ := key
 have ho : isEndP (toL s) = (b1 || b2 || b3) := by
  unfold isEndP
  rw [← h1, ← h2, ← h3, ByteArray.toList_eq]
  rfl
 rw [ho]
 clear ho
 cases b1 <;> cases b2 <;> cases b3 <;> (go_enter Tryz.func141, Tryz.ntmps141; go_wp2_with fail; go_ret; exact ⟨rfl, rfl⟩)
end Go.Proofs.YtbffebcjimhapaaGreatDoor
