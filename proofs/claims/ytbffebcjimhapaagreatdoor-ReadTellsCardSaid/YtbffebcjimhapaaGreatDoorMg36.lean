/-
  The reference's comparison of lines. And what stands on it: LexTells, LexAny, LexJoin1, LexLaw, LexLaw2, RdRead, RfProg0.
-/
import Derived.Test.YtbffebcjimhapaaGreatDoorMg8
import Derived.Test.YtbffebcjimhapaaGreatDoorMg16
import Derived.Test.YtbffebcjimhapaaGreatDoorMg28
import Derived.Test.YtbffebcjimhapaaGreatDoorMg29
import Derived.Test.YtbffebcjimhapaaGreatDoorMg35
namespace Go.Proofs.YtbffebcjimhapaaGreatDoor
set_option linter.unusedVariables false
set_option linter.unusedSimpArgs false
open Go.ChangeShapes Go.WideShapes Go.ChangeAt Go.RowKit
def lns (rows : List LnR) : List (List ByteArray) := rows.map LnR.xs
def errL (o : Option (List (List Bs))) : Int := if o.isSome then 0 else 4
theorem LinesOut.form {o : Option (List (List Bs))} {w w' : World} {e : Ending} (h : LinesOut o w e w') : ∃ A c rows, e = .returned (.tuple #[.slice A rows.length c, .int .i64 (errL o)]) ∧ OwnLines w' w.heap.size (.slice A rows.length c) rows ∧ Hid (rows.map LnR.data = o.getD []) ∧ Below w.heap.size w w' := by
 cases o with
 | none =>
   obtain ⟨rfl, hb⟩ := h
   exact ⟨none, 0, [], rfl, OwnLines.nil _ _, Lib.hid rfl, hb⟩
 | some m =>
   obtain ⟨v, rows, rfl, ho, hm, hb⟩ := h
   obtain ⟨A, c, rfl, _⟩ := ho.full
   exact ⟨A, c, rows, rfl, ho, Lib.hid hm, hb⟩
theorem OwnLines.at_ {w : World} {lo : Nat} {A : Option Addr} {c : Nat} {rows : List LnR} (h : OwnLines w lo (.slice A rows.length c) rows) : LinesAt w A c rows := by
 obtain ⟨A2, c2, e, h2⟩ := h.full
 injection e with e1 _ e3
 subst e1 e3
 exact h2
def spB (s : Bs) : Bool := s.any fun c => !isPlain c
def NoSp (s : ByteArray) (i : Nat) : Prop := ∀ j (h : j < s.size), j < i → isPlain (s[j]'h) = true
theorem NoSp.none {s : ByteArray} (h : NoSp s s.size) : spB (toL s) = false := by
 unfold spB
 rw [List.any_eq_false]
 intro c hc
 obtain ⟨j, hj, rfl⟩ := List.mem_iff_getElem.1 hc
 have hj' : j < s.size := by rw [toL_size] at hj; exact hj
 have e : (toL s)[j]'hj = s[j]'hj' := by
  have := toL_at s hj'
  rw [List.getElem?_eq_getElem hj] at this
  exact Option.some.inj this
 rw [e, h j hj' hj']
 decide
def mayW (s : Bs) : Bool := !s.isEmpty && !spB s
def mayL (l : List Bs) : Bool := !l.isEmpty && l.all mayW
def mayP (l : List (List Bs)) : Bool := l.all mayL
def wordsT (ws : List Bs) : Bs := (ws.flatMap fun w => 32 :: w).drop 1
def lineT (ws : List Bs) : Bs := wordsT ws ++ [10]
def textT (l : List (List Bs)) : Bs := l.flatMap lineT
def overP (l : List (List Bs)) : Bool := l.any (fun ws => decide (64 < ws.length)) || decide (16384 < (textT l).length)
def joinP (l : List (List Bs)) : Bs × Int := if mayP l then (if overP l then ([], 4) else (textT l, 0)) else ([], 2)
def FewL (rows : List LnR) : Prop := rows.length ≤ 3000 ∧ ∀ r ∈ rows, r.xs.length ≤ 80 ∧ ∀ x ∈ r.xs, x.size ≤ 20000
def JoinOf (rows : List LnR) (w : World) (e : Ending) (w' : World) : Prop :=
 ∃ t er, e = .returned (.tuple #[.string ⟨t.toArray⟩, .int .i64 er]) ∧ joinP (rows.map LnR.data) = (t, er) ∧ Below w.heap.size w w'
end Go.Proofs.YtbffebcjimhapaaGreatDoor
namespace Go.Proofs.YtbffebcjimhapaaGreatDoor
set_option linter.unusedVariables false
set_option linter.unusedSimpArgs false
open Go.RowKit
def rawL (s : Bs) : List (List Bs) := (cutB 10 s).map wordsR
theorem outR_raw (s : Bs) : outR s [] [] = if (rawL s).any (fun l => decide (64 < l.length)) then none else some ((rawL s).filter fun l => !l.isEmpty) := outR_start s
theorem raw_some {s : Bs} {m : List (List Bs)} (h : outR s [] [] = some m) : (rawL s).any (fun l => decide (64 < l.length)) = false ∧ (rawL s).filter (fun l => !l.isEmpty) = m := by
 rw [outR_raw] at h
 cases ha : (rawL s).any (fun l => decide (64 < l.length)) with
 | true => rw [ha] at h; cases h
 | false => rw [ha] at h; exact ⟨rfl, Option.some.inj h⟩
/-! what is joined -/
theorem cut_all (x : UInt8) : ∀ t : Bs, ∀ p ∈ cutB x t, ∀ c ∈ p, c ∈ t ∧ c ≠ x
 | [], p, hp, c, hc => by
   obtain rfl := List.mem_singleton.1 hp
   cases hc
 | d :: t, p, hp, c, hc => by
   by_cases h : d = x
   · subst h
     rw [cut_at] at hp
     rcases List.mem_cons.1 hp with rfl | hp
     · cases hc
     · obtain ⟨h1, h2⟩ := cut_all _ t p hp c hc
       exact ⟨List.mem_cons_of_mem _ h1, h2⟩
   · rw [cut_on h] at hp
     rw [cut_head x t] at *
     rcases List.mem_cons.1 hp with rfl | hp
     · rcases List.mem_cons.1 hc with rfl | hc
       · exact ⟨List.mem_cons_self, h⟩
       · obtain ⟨h1, h2⟩ := cut_all x t ((cutB x t).headD []) (by rw [cut_head x t]; exact List.mem_cons_self) c hc
         exact ⟨List.mem_cons_of_mem _ h1, h2⟩
     · obtain ⟨h1, h2⟩ := cut_all x t p (by rw [cut_head x t]; exact List.mem_cons_of_mem _ hp) c hc
       exact ⟨List.mem_cons_of_mem _ h1, h2⟩
theorem words_may {p : Bs} (h10 : ∀ c ∈ p, c ≠ 10) {w : Bs} (hw : w ∈ wordsR p) : mayW w = true := by
 unfold wordsR at hw
 obtain ⟨hm, hne⟩ := List.mem_filter.1 hw
 unfold mayW spB
 rw [Bool.and_eq_true, Bool.not_eq_true', Bool.not_eq_true']
 refine ⟨by simpa using hne, ?_⟩
 rw [List.any_eq_false]
 intro c hc
 obtain ⟨h1, h2⟩ := cut_all 32 _ w hm c hc
 obtain ⟨d, hd, he⟩ := List.mem_map.1 h1
 have hd35 := cut_no 35 p d hd
 have hdp : d ∈ p := (cut_all 35 p _ (by rw [cut_head 35 p]; exact List.mem_cons_self) d hd).1
 have hd10 := h10 d hdp
 by_cases h9 : d = 9 ∨ d = 13
 · rw [if_pos h9] at he
   exact absurd he.symm h2
 · rw [if_neg h9] at he
   subst he
   unfold isPlain isBlank
   simp only [Bool.not_not, Bool.or_eq_true, beq_iff_eq, not_or]
   exact ⟨⟨⟨⟨h2, fun e => h9 (.inl e)⟩, fun e => h9 (.inr e)⟩, hd10⟩, hd35⟩
def lens (l : List Bs) : Nat := (l.map List.length).sum
theorem lens_cons (p : Bs) (l : List Bs) : lens (p :: l) = p.length + lens l := by unfold lens; rw [List.map_cons, List.sum_cons]
theorem cut_lens (x : UInt8) : ∀ t : Bs, lens (cutB x t) ≤ t.length
 | [] => Nat.le_refl _
 | d :: t => by
   have ih := cut_lens x t
   by_cases h : d = x
   · subst h
     rw [cut_at, lens_cons, List.length_cons]
     simp only [List.length_nil]
     omega
   · rw [cut_on h, lens_cons, List.length_cons, List.length_cons]
     rw [cut_head x t, lens_cons] at ih
     omega
theorem lens_filter (f : Bs → Bool) : ∀ l : List Bs, lens (l.filter f) ≤ lens l
 | [] => Nat.le_refl _
 | p :: l => by
   have ih := lens_filter f l
   rw [List.filter_cons]
   split
   · rw [lens_cons, lens_cons]; omega
   · rw [lens_cons]; omega
theorem words_lens (p : Bs) : lens (wordsR p) ≤ p.length := by
 have h1 : lens (wordsR p) ≤ lens (cutB 32 (spaced ((cutB 35 p).headD []))) := lens_filter _ _
 have h2 := cut_lens 32 (spaced ((cutB 35 p).headD []))
 have h3 : (spaced ((cutB 35 p).headD [])).length = ((cutB 35 p).headD []).length := by unfold spaced; rw [List.length_map]
 have h4 := cut_lens 35 p
 rw [cut_head 35 p, lens_cons] at h4
 omega
theorem lines_few {s : Bs} {m : List (List Bs)} (h : linesP s = some m) : m.length ≤ s.length + 1 ∧ ∀ ws ∈ m, ws.length ≤ 64 ∧ ∀ w ∈ ws, w.length ≤ s.length := by
 unfold linesP at h
 split at h
 · cases h
 · obtain ⟨h1, h2⟩ := raw_some h
   refine ⟨?_, fun ws hw => ?_⟩
   · have h3 : m.length ≤ (rawL s).length := by rw [← h2]; exact List.length_filter_le _ _
     have h4 : ∀ t : Bs, (cutB 10 t).length ≤ t.length + 1 := by
      intro t
      induction t with
      | nil => exact Nat.le_refl _
      | cons c t ih =>
        by_cases e : c = 10
        · subst e; rw [cut_at, List.length_cons, List.length_cons]; omega
        · rw [cut_on e, List.length_cons, List.length_cons]
          rw [cut_head 10 t, List.length_cons] at ih
          omega
     have h5 := h4 s
     unfold rawL at h3
     rw [List.length_map] at h3
     omega
   · rw [← h2] at hw
     obtain ⟨h3, h4⟩ := List.mem_filter.1 hw
     have := (List.any_eq_false.1 h1) ws h3
     have := of_decide_eq_false (by simpa using this : decide (64 < ws.length) = false)
     refine ⟨by omega, fun w hw2 => ?_⟩
     obtain ⟨p, hp, e⟩ := List.mem_map.1 h3
     have h5 := words_lens p
     rw [e] at h5
     have h6 : w.length ≤ lens ws := by
      unfold lens
      have : ∀ l : List Nat, ∀ x ∈ l, x ≤ l.sum := fun l => by
       induction l with
       | nil => intro x hx; cases hx
       | cons a t ih =>
         intro x hx
         rw [List.sum_cons]
         rcases List.mem_cons.1 hx with rfl | hx
         · omega
         · have := ih x hx; omega
      exact this _ _ (List.mem_map.2 ⟨w, hw2, rfl⟩)
     have h7 := cut_lens 10 s
     have h8 : p.length ≤ lens (cutB 10 s) := by
      unfold lens
      have : ∀ l : List Nat, ∀ x ∈ l, x ≤ l.sum := fun l => by
       induction l with
       | nil => intro x hx; cases hx
       | cons a t ih =>
         intro x hx
         rw [List.sum_cons]
         rcases List.mem_cons.1 hx with rfl | hx
         · omega
         · have := ih x hx; omega
      exact this _ _ (List.mem_map.2 ⟨p, hp, rfl⟩)
     omega
end Go.Proofs.YtbffebcjimhapaaGreatDoor
namespace Go.Proofs.YtbffebcjimhapaaGreatDoor
set_option linter.unusedVariables false
set_option linter.unusedSimpArgs false
open Go.ChangeShapes Go.WideShapes Go.ChangeAt Go.RowKit
theorem lines_full {s : Bs} {m : List (List Bs)} (h : linesP s = some m) : ∀ ws ∈ m, ws ≠ [] ∧ ∀ w ∈ ws, mayW w = true := by
 unfold linesP at h
 split at h
 · cases h
 · obtain ⟨h1, h2⟩ := raw_some h
   intro ws hw
   rw [← h2] at hw
   obtain ⟨h3, h4⟩ := List.mem_filter.1 hw
   refine ⟨fun e => (by subst e; cases h4), fun w hw => ?_⟩
   unfold rawL at h3
   obtain ⟨p, hp, rfl⟩ := List.mem_map.1 h3
   exact words_may (fun c hc => (cut_all 10 s p hp c hc).2) hw
theorem mayW_pos {w : Bs} (h : mayW w = true) : 0 < w.length := by
 cases w with
 | nil => cases h
 | cons a t => exact Nat.succ_pos _
theorem lines_len {s : Bs} {m : List (List Bs)} (h : linesP s = some m) : m.length ≤ 20000 := by
 have h1 := (lines_few h).1
 unfold linesP at h
 split at h
 · cases h
 · omega
theorem lines_ok {s : Bs} {rows : List LnR} (h : linesP s = some (rows.map LnR.data)) {A : Option Addr} {c : Nat} : LOk ⟨A, c, rows⟩ := by
 have h1 := lines_full h
 have h2 := (lines_few h).2
 have h3 := lines_len h
 rw [List.length_map] at h3
 refine ⟨fun r hr => ?_, fun r hr => ?_, h3⟩
 · have hm : r.data ∈ rows.map LnR.data := List.mem_map_of_mem hr
   obtain ⟨h4, h5⟩ := h1 _ hm
   refine ⟨?_, fun x hx => ?_⟩
   · rw [← LnR.data_len]
     cases hd : r.data with
     | nil => exact absurd hd h4
     | cons a t => exact Nat.succ_pos _
   · have := mayW_pos (h5 (toL x) (List.mem_map_of_mem hx))
     rw [toL_size] at this
     exact this
 · have hm : r.data ∈ rows.map LnR.data := List.mem_map_of_mem hr
   have := (h2 _ hm).1
   rw [← LnR.data_len]
   omega
theorem lines64 {s : Bs} {m : List (List Bs)} (h : linesP s = some m) : Few64 m := fun ws hw => ((lines_few h).2 ws hw).1
def ReadOut (o : PProg × Int) (w : World) (e : Ending) (w' : World) : Prop := ∃ r : PrR, e = .returned (.tuple #[r.val, .int .i64 o.2]) ∧ OwnPr w' w.heap.size r ∧ r.data = o.1 ∧ Below w.heap.size w w'
def noPr : PrR := ⟨none, 0, [], none, 0, []⟩
theorem noPr_own (w : World) (lo : Nat) : OwnPr w lo noPr := ⟨OwnTys.nil _ _, OwnFus.nil _ _⟩
theorem OwnPr.spareOf {w w' : World} {lo : Nat} {p : PrR} {t : TypeId} (h : OwnPr w lo p) (hs : Spare t w w') (h1 : 3 ≠ t) (h2 : 78 ≠ t) (h3 : 74 ≠ t) (h4 : 71 ≠ t) (h5 : 64 ≠ t) : OwnPr w' lo p := ⟨h.types.spare hs h1 h2, h.funs.spare hs h1 h3 h4 h5⟩
theorem OwnPr.keepOn {w w' : World} {lo : Nat} {p : PrR} (h : OwnPr w lo p) (hb : Below w.heap.size w w') : OwnPr w' lo p := ⟨h.types.keep hb, h.funs.keep hb⟩
theorem OwnPr.moreOn {w : World} {lo lo' : Nat} {p : PrR} (h : OwnPr w lo p) (hl : lo' ≤ lo) : OwnPr w lo' p := ⟨h.types.more hl, h.funs.more hl⟩
section
variable {s : Bs} {m : List (List Bs)} {p : PProg}
theorem readA_none (h : linesP s = none) : readA s = (noProg, 4) := by unfold readA; rw [h]
theorem readA_bad (h : linesP s = some m) (h1 : programQ m = none) : readA s = (noProg, 70) := by unfold readA; rw [h]; dsimp only; rw [h1]
theorem readA_check (h : linesP s = some m) (h1 : programQ m = some p) (h2 : checkP p ≠ 0) : readA s = (noProg, checkP p) := by unfold readA; rw [h]; dsimp only; rw [h1]; dsimp only; rw [if_pos h2]
theorem readA_ok (h : linesP s = some m) (h1 : programQ m = some p) (h2 : checkP p = 0) : readA s = (p, 0) := by unfold readA; rw [h]; dsimp only; rw [h1]; dsimp only; rw [if_neg (by rw [h2]; decide)]
end
set_option maxRecDepth 100000 in
set_option maxHeartbeats 3200000 in
theorem pread_any (s : ByteArray) (hs : s.size ≤ 20000) (w : World) (hT : TabW w) : Calls Tryz.prog 10 #[.string s] w (ReadOut (readA (toL s)) w) := by
 have hmf : ∀ (fn : Fn) (first cap : Array Value) (w : World), (Instr.makeFunc fn first cap).run Tryz.prog w = .ok (.func fn first cap) w := fun _ _ _ _ => rfl
 have HL := Lib.hid (fun W => plines_any s hs W)
 have HK := Lib.hid (((Blk.new w 25 #[.slice none 0 0, .slice none 0 0])).alloc (.cells #[.int .i64 0] 26))
 have HE := Lib.hid (Blk.new2 w (.cells #[.slice none 0 0, .slice none 0 0] 25) 26 #[.int .i64 0])
 have HB : Hid (Below w.heap.size w ((w.alloc (.cells #[.slice none 0 0, .slice none 0 0] 25)).alloc (.cells #[.int .i64 0] 26))) := Lib.hid (((Below.refl _ _).alloc (Nat.le_refl _) _).alloc (by rw [World.size_alloc]; omega) _)
 have HT := Lib.hid hT
 clear hT
 obtain ⟨z, hz⟩ : ∃ z, readA (toL s) = z := ⟨_, rfl⟩
 rw [hz]
 have HZ := Lib.hid hz
 clear hz
 cases hl : linesP (toL s) with
 | none =>
   rw [hl] at HL
   have HZ2 : Hid (z = (noProg, 4)) := Lib.hid (HZ.out.symm.trans (readA_none hl))
   clear hl
   go_enter_defers Tryz.func10, Tryz.ntmps10
   go_wp2_with (go_at_call 23; refine (HL.out _).mono ?_; rintro e w1 ⟨rfl, hb⟩; have HB1 := Lib.hid (HB.out.trans (hb.mono HB.out.size)); have HK1 := Lib.hid (HK.out.beneath hb); have HE1 := Lib.hid (HE.out.beneath hb); have k0 := HK1.out.cells 0; have k1 := HK1.out.cells 1; have k2 := HE1.out.cells 0; have k3 := HE1.out.free 0; have k4 := HK1.out.free 0; have k5 := HK1.out.free 1; clear hb)
   have HE2 := Lib.hid (HE1.out.put 0 (.int .i64 4))
   have HK2 := Lib.hid (HK1.out.far (p := ⟨w.heap.size + 1, 0, none⟩) (by show w.heap.size ≠ w.heap.size + 1; omega) (.int .i64 4))
   have HB2 := Lib.hid (HB1.out.setCell (p := ⟨w.heap.size + 1, 0, none⟩) (by show w.heap.size ≤ w.heap.size + 1; omega) (.int .i64 4))
   clear k0 k1 k2 k3 k4 k5 HE1 HK1 HB1
   generalize w1.setCell ⟨w.heap.size + 1, 0, none⟩ (.int .i64 4) = w2 at *
   have k0 := HK2.out.cells 0
   have k1 := HK2.out.cells 1
   have k2 := HE2.out.cells 0
   have k3 := HE2.out.free 0
   have k4 := HK2.out.free 0
   have k5 := HK2.out.free 1
   go_region
   have HK3 := Lib.hid (((HK2.out.put 0 (.slice none 0 0)).put 1 (.slice none 0 0)).far (p := ⟨w.heap.size + 1, 0, none⟩) (by show w.heap.size ≠ w.heap.size + 1; omega) (.int .i64 4))
   have HE3 := Lib.hid (((HE2.out.far (p := ⟨w.heap.size, 0, none⟩) (by show w.heap.size + 1 ≠ w.heap.size; omega) (.slice none 0 0)).far (p := ⟨w.heap.size, 1, none⟩) (by show w.heap.size + 1 ≠ w.heap.size; omega) (.slice none 0 0)).put 0 (.int .i64 4))
   have HB3 := Lib.hid (((HB2.out.setCell (p := ⟨w.heap.size, 0, none⟩) (Nat.le_refl _) (.slice none 0 0)).setCell (p := ⟨w.heap.size, 1, none⟩) (Nat.le_refl _) (.slice none 0 0)).setCell (p := ⟨w.heap.size + 1, 0, none⟩) (by show w.heap.size ≤ w.heap.size + 1; omega) (.int .i64 4))
   have q0 := HK3.out.cells 0
   have q1 := HK3.out.cells 1
   have q2 := HE3.out.cells 0
   have HBd := Lib.hid (HB3.out.drew)
   go_wp2_with fail
   simp [bodyPostD, Leaves, results, Tryz.results10, go_sem, q0, q1, q2]
   rw [HZ2.out]
   exact ⟨noPr, rfl, noPr_own _ _, rfl, HBd.out⟩
 | some m =>
   rw [hl] at HL
   go_enter_defers Tryz.func10, Tryz.ntmps10
   go_wp2_with (go_at_call 23; refine (HL.out _).mono ?_; rintro e w1 ⟨v1, rows, rfl, hown, hdat, hb⟩; have HB1 := Lib.hid (HB.out.trans (hb.mono HB.out.size)); have HK1 := Lib.hid (HK.out.beneath hb); have HE1 := Lib.hid (HE.out.beneath hb); have HD := Lib.hid hdat; have HOW := Lib.hid hown; obtain ⟨A1, c1, rfl, _⟩ := hown.full; have k0 := HK1.out.cells 0; have k1 := HK1.out.cells 1; have k2 := HE1.out.cells 0; have k3 := HE1.out.free 0; have k4 := HK1.out.free 0; have k5 := HK1.out.free 1; clear hb hdat hown)
   have HE2 := Lib.hid (HE1.out.put 0 (.int .i64 0))
   have HK2 := Lib.hid (HK1.out.far (p := ⟨w.heap.size + 1, 0, none⟩) (by show w.heap.size ≠ w.heap.size + 1; omega) (.int .i64 0))
   have hb2 := HB1.out.setCell (p := ⟨w.heap.size + 1, 0, none⟩) (by show w.heap.size ≤ w.heap.size + 1; omega) (.int .i64 0)
   have HOW2 : Hid (OwnLines (w1.setCell ⟨w.heap.size + 1, 0, none⟩ (.int .i64 0)) (w.heap.size + 2) (.slice A1 rows.length c1) rows) := Lib.hid (by
    have h1 : ((w.alloc (.cells #[.slice none 0 0, .slice none 0 0] 25)).alloc (.cells #[.int .i64 0] 26)).heap.size = w.heap.size + 2 := by rw [World.size_alloc, World.size_alloc]
    have h2 := HOW.out
    rw [h1] at h2
    have hs := Spare.set (j := 0) HE1.out (.int .i64 0)
    exact ⟨ownsRow_spare h2.row hs (by decide), fun r hr => (h2.ok r hr).spare hs (by decide)⟩)
   have hsz : w1.heap.size = (w1.setCell ⟨w.heap.size + 1, 0, none⟩ (.int .i64 0)).heap.size := (size_set _ _ _).symm
   clear k0 k1 k2 k3 k4 k5 HE1 HK1 HB1 HOW
   rw [hsz]
   clear hsz
   generalize w1.setCell ⟨w.heap.size + 1, 0, none⟩ (.int .i64 0) = w2 at *
   have HB2 := Lib.hid hb2
   have HR : Hid (Rdr (w2.alloc (.cells #[.slice A1 rows.length c1, .slice none 0 0, .slice none 0 0, .slice none 0 0] 55)) w2.heap.size ⟨A1, c1, rows⟩ ⟨none, 0, []⟩ (.slice none 0 0) (.slice none 0 0)) := Lib.hid ⟨Blk.new _ _ _, HOW2.out.ls.on ((Below.refl _ _).alloc (Nat.le_refl _) _), ⟨⟨⟨Nat.le_refl _, Nat.zero_le _, fun _ => ⟨rfl, rfl⟩⟩, fun h => absurd h (Nat.lt_irrefl 0)⟩, fun h => absurd h (Nat.lt_irrefl 0)⟩⟩
   have HBN := Lib.hid (HB2.out.alloc (HB2.out.size) (.cells #[.slice A1 rows.length c1, .slice none 0 0, .slice none 0 0, .slice none 0 0] 55))
   have HLO : Hid (LOk ⟨A1, c1, rows⟩) := Lib.hid (lines_ok (s := toL s) (by rw [hl, HD.out]))
   have HLD : Hid ((⟨A1, c1, rows⟩ : LsR).data = m) := HD
   have HPR := Lib.hid (rprogram_any HR.out HLO.out (HT.out.on HBN.out))
   rw [HLD.out] at HPR
   have HK3 := Lib.hid (HK2.out.alloc (.cells #[.slice A1 rows.length c1, .slice none 0 0, .slice none 0 0, .slice none 0 0] 55))
   have HE3 := Lib.hid (HE2.out.alloc (.cells #[.slice A1 rows.length c1, .slice none 0 0, .slice none 0 0, .slice none 0 0] 55))
   have hn1 : w.heap.size ≠ w2.heap.size := by have := HK2.out.lt; omega
   have hn2 : w.heap.size + 1 ≠ w2.heap.size := by have := HE2.out.lt; omega
   have hg0 : w.heap.size ≤ w2.heap.size := HB2.out.size
   have HL64 := Lib.hid (lines64 hl)
   have HLL := Lib.hid (lines_len hl)
   obtain ⟨o, ho⟩ : ∃ o, programQ m = o := ⟨_, rfl⟩
   rw [ho] at HPR
   have HPQ := Lib.hid ho
   have HLQ := Lib.hid hl
   show Calls _ _ _ _ _
   refine HPR.out.mono ?_
   rintro e w3 ⟨ht, hm⟩
   have HK4 := Lib.hid (ht.blk HK3.out hn1)
   have HE4 := Lib.hid (ht.blk HE3.out hn2)
   have HB4 := Lib.hid (HBN.out.trans (ht.below (HBN.out.size) hg0))
   clear ho hl hb2 hn1 hn2
   cases o with
   | none =>
     have hm : e = giveUp := hm
     subst hm
     clear ht
     go_wp2_with fail
     have HZ2 : Hid (z = (noProg, 70)) := Lib.hid (HZ.out.symm.trans (readA_bad HLQ.out HPQ.out))
     refine leaves_cons (f := 24) (args := #[.pointer (some ⟨w.heap.size, 0, none⟩), .pointer (some ⟨w.heap.size + 1, 0, none⟩)]) (by simp) (by simp [go_sem]) ?_
     refine (catch_wrong w.heap.size (w.heap.size + 1) w3 HK4.out HE4.out (by omega)).mono ?_
     rintro e u' w5 ⟨rfl, rfl, h1, h2, h3⟩
     rw [Nat.min_eq_left (Nat.le_succ _)] at h3
     have q0 := h1.cells 0
     have q1 := h1.cells 1
     have q2 := h2.cells 0
     simp [Leaves, settle, results, Tryz.results10, go_sem, q0, q1, q2]
     rw [HZ2.out]
     exact ⟨noPr, rfl, noPr_own _ _, rfl, HB4.out.trans h3⟩
   | some p =>
     obtain ⟨r, l', x', rfl, hrd, hro, hrr⟩ := hm
     have HPL := Lib.hid (programQ_few HL64.out HPQ.out)
     rw [← hrd] at HPL
     have HCK := Lib.hid (ppcheck_is hro.prog.1 (HPL.out.prog HLL.out) (HT.out.on HB4.out) rfl)
     have HRO := Lib.hid hro
     have HRR := Lib.hid hrr
     have HRD := Lib.hid hrd
     obtain ⟨ta, tc, types, fa, fc, funs⟩ := r
     unfold PrR.val at HCK
     dsimp only at *
     have c2 := HRR.out.blk.cells 2
     have c3 := HRR.out.blk.cells 3
     generalize hck : checkP (PrR.data ⟨ta, tc, types, fa, fc, funs⟩) = ck at HCK
     have HCE := Lib.hid hck
     clear ht hro hrr hck
     by_cases hc0 : ck = 0
     · subst hc0
       go_wp2_with (go_at_call 21; refine HCK.out.mono ?_; rintro e w4 ⟨rfl, hb⟩; have HB5 := Lib.hid (HB4.out.trans (hb.mono HB4.out.size)); have HK5 := Lib.hid (HK4.out.beneath hb); have HE5 := Lib.hid (HE4.out.beneath hb); have HRR5 := Lib.hid (HRR.out.on hb); have HRO5 := Lib.hid (HRO.out.keepOn hb); have d2 := HRR5.out.blk.cells 2; have d3 := HRR5.out.blk.cells 3; have k0 := HK5.out.cells 0; have k1 := HK5.out.cells 1; have k2 := HE5.out.cells 0; have k3 := HE5.out.free 0; have k4 := HK5.out.free 0; have k5 := HK5.out.free 1; clear hb)
       have HK6 := Lib.hid (((HK5.out.put 0 (.slice ta types.length tc)).put 1 (.slice fa funs.length fc)).far (p := ⟨w.heap.size + 1, 0, none⟩) (by show w.heap.size ≠ w.heap.size + 1; omega) (.int .i64 0))
       have HE6 := Lib.hid (((HE5.out.far (p := ⟨w.heap.size, 0, none⟩) (by show w.heap.size + 1 ≠ w.heap.size; omega) (.slice ta types.length tc)).far (p := ⟨w.heap.size, 1, none⟩) (by show w.heap.size + 1 ≠ w.heap.size; omega) (.slice fa funs.length fc)).put 0 (.int .i64 0))
       have HB6 := Lib.hid (((HB5.out.setCell (p := ⟨w.heap.size, 0, none⟩) (Nat.le_refl _) (.slice ta types.length tc)).setCell (p := ⟨w.heap.size, 1, none⟩) (Nat.le_refl _) (.slice fa funs.length fc)).setCell (p := ⟨w.heap.size + 1, 0, none⟩) (by show w.heap.size ≤ w.heap.size + 1; omega) (.int .i64 0))
       have q3 := HK6.out.cells 0
       have q4 := HK6.out.cells 1
       have q5 := HE6.out.cells 0
       refine leaves_cons (f := 24) (args := #[.pointer (some ⟨w.heap.size, 0, none⟩), .pointer (some ⟨w.heap.size + 1, 0, none⟩)]) (by simp) (by simp [go_sem]) ?_
       refine (catch_idle ⟨w.heap.size, 0, none⟩ ⟨w.heap.size + 1, 0, none⟩ _).mono ?_
       rintro e u' w5 ⟨rfl, rfl, rfl⟩
       simp [Leaves, settle, results, Tryz.results10, go_sem, q3, q4, q5]
       have HZ2 : Hid (z = ((⟨ta, tc, types, fa, fc, funs⟩ : PrR).data, 0)) := Lib.hid (by rw [HRD.out]; exact HZ.out.symm.trans (readA_ok HLQ.out HPQ.out (by rw [← HRD.out]; exact HCE.out)))
       rw [HZ2.out]
       have hs1 : Spare 25 w4 (w4.setCell ⟨w.heap.size, 0, none⟩ (.slice ta types.length tc)) := Spare.set HK5.out _
       have hs2 : Spare 25 _ ((w4.setCell ⟨w.heap.size, 0, none⟩ (.slice ta types.length tc)).setCell ⟨w.heap.size, 1, none⟩ (.slice fa funs.length fc)) := Spare.set (HK5.out.put 0 _) _
       have hs3 : Spare 26 _ (((w4.setCell ⟨w.heap.size, 0, none⟩ (.slice ta types.length tc)).setCell ⟨w.heap.size, 1, none⟩ (.slice fa funs.length fc)).setCell ⟨w.heap.size + 1, 0, none⟩ (.int .i64 0)) := Spare.set ((HE5.out.far (p := ⟨w.heap.size, 0, none⟩) (by show w.heap.size + 1 ≠ w.heap.size; omega) (.slice ta types.length tc)).far (p := ⟨w.heap.size, 1, none⟩) (by show w.heap.size + 1 ≠ w.heap.size; omega) (.slice fa funs.length fc)) _
       exact ⟨⟨ta, tc, types, fa, fc, funs⟩, rfl, (((HRO5.out.spareOf (hs1.trans hs2) (by decide) (by decide) (by decide) (by decide) (by decide)).spareOf hs3 (by decide) (by decide) (by decide) (by decide) (by decide)).moreOn HBN.out.size), rfl, HB6.out⟩
     · have q1 : (ck == 0) = false := by simpa using hc0
       have q2 : (ck != 0) = true := by simpa using hc0
       have HC0 := Lib.hid hc0
       clear hc0
       go_wp2_with (go_at_call 21; refine HCK.out.mono ?_; rintro e w4 ⟨rfl, hb⟩; have HB5 := Lib.hid (HB4.out.trans (hb.mono HB4.out.size)); have HK5 := Lib.hid (HK4.out.beneath hb); have HE5 := Lib.hid (HE4.out.beneath hb); have k0 := HK5.out.cells 0; have k1 := HK5.out.cells 1; have k2 := HE5.out.cells 0; have k3 := HE5.out.free 0; have k4 := HK5.out.free 0; have k5 := HK5.out.free 1; clear hb)
       have HK6 := Lib.hid (((HK5.out.put 0 (.slice none 0 0)).put 1 (.slice none 0 0)).far (p := ⟨w.heap.size + 1, 0, none⟩) (by show w.heap.size ≠ w.heap.size + 1; omega) (.int .i64 ck))
       have HE6 := Lib.hid (((HE5.out.far (p := ⟨w.heap.size, 0, none⟩) (by show w.heap.size + 1 ≠ w.heap.size; omega) (.slice none 0 0)).far (p := ⟨w.heap.size, 1, none⟩) (by show w.heap.size + 1 ≠ w.heap.size; omega) (.slice none 0 0)).put 0 (.int .i64 ck))
       have HB6 := Lib.hid (((HB5.out.setCell (p := ⟨w.heap.size, 0, none⟩) (Nat.le_refl _) (.slice none 0 0)).setCell (p := ⟨w.heap.size, 1, none⟩) (Nat.le_refl _) (.slice none 0 0)).setCell (p := ⟨w.heap.size + 1, 0, none⟩) (by show w.heap.size ≤ w.heap.size + 1; omega) (.int .i64 ck))
       have q3 := HK6.out.cells 0
       have q4 := HK6.out.cells 1
       have q5 := HE6.out.cells 0
       refine leaves_cons (f := 24) (args := #[.pointer (some ⟨w.heap.size, 0, none⟩), .pointer (some ⟨w.heap.size + 1, 0, none⟩)]) (by simp) (by simp [go_sem]) ?_
       refine (catch_idle ⟨w.heap.size, 0, none⟩ ⟨w.heap.size + 1, 0, none⟩ _).mono ?_
       rintro e u' w5 ⟨rfl, rfl, rfl⟩
       simp [Leaves, settle, results, Tryz.results10, go_sem, q3, q4, q5]
       have HZ2 : Hid (z = (noProg, ck)) := Lib.hid (by
        have h1 := HCE.out
        rw [HRD.out] at h1
        have h2 := readA_check HLQ.out HPQ.out (by rw [h1]; exact HC0.out)
        rw [h1] at h2
        exact HZ.out.symm.trans h2)
       rw [HZ2.out]
       exact ⟨noPr, rfl, noPr_own _ _, rfl, HB6.out⟩
section
variable {P : Program} {ops : Array Oper} {Q : Exit → Act → World → Prop} {md : Region.Mode} {S : World → Prop} {last : Nat}
theorem wpAnyT_two {i j : Nat} {o o' : Oper} {fuel : Nat} {listed : Array Bool} {a : Act} {w : World} (hr : Region.ready md ops listed = [i, j]) (ho : ops[i]? = some o) (ho' : ops[j]? = some o')
    (h : ∀ K' : Act → World → Prop, Shut (∀ a w, (i ≠ last → S w) → ((i ≠ last → S w) → wpAnyT P md ops Q S last fuel (listed.setIfInBounds i true) a w) → K' a w) → if Region.wanted o (yielded ops a.tmps) = true then Oper.wp P o a w K' Q else K' (a.put o.dst undef) w)
    (h' : ∀ K' : Act → World → Prop, Shut (∀ a w, (j ≠ last → S w) → ((j ≠ last → S w) → wpAnyT P md ops Q S last fuel (listed.setIfInBounds j true) a w) → K' a w) → if Region.wanted o' (yielded ops a.tmps) = true then Oper.wp P o' a w K' Q else K' (a.put o'.dst undef) w) :
    wpAnyT P md ops Q S last (fuel + 1) listed a w := by
 refine ⟨fun h0 => (by rw [hr] at h0; cases h0), fun k hk => ?_⟩
 rw [hr, List.mem_cons, List.mem_singleton] at hk
 rcases hk with rfl | rfl
 · exact wpOp_step ho (fun K' hK => h K' (fun a w hS hW => hK a w ⟨hS, hW hS⟩))
 · exact wpOp_step ho' (fun K' hK => h' K' (fun a w hS hW => hK a w ⟨hS, hW hS⟩))
end
theorem wpList_appFu {w : World} {ops : Array Oper} {rest : List Oper} {o : Oper} {a : Act} {Q : Exit → Act → World → Prop} (hgd : o.guard = none) (s x : Operand)
    (ho : o.op = .call { callee := .builtin .append, args := #[s, x], argTypes := #[23, 23] })
    (lo : Nat) (v : Value) (rows : List FuR) (r : FuR) (hs : a.eval s = v) (hown : OwnFus w lo v rows) (hx : a.eval x = .slice (some ⟨w.heap.size, 0, none⟩) 1 1) (hr : r.Own w lo)
    (hlen : rows.length ≤ 1000000) (hbase : lo ≤ w.heap.size)
    (h : ∀ v' w', OwnFus w' lo v' (rows ++ [r]) → (w.alloc (.cells #[.int .i64 r.sig, .slice r.ba r.blocks.length r.bc] 64)).grownBy w' v.ownBlock → wpList Tryz.prog ops Q rest (a.put o.dst v') w') :
    wpList Tryz.prog ops Q (o :: rest) a (w.alloc (.cells #[.int .i64 r.sig, .slice r.ba r.blocks.length r.bc] 64)) := by
 obtain ⟨i0, hi, hz0, hz1, hz2⟩ := info_parts funcInfo
 refine wpList_appS hgd s x 23 64 ho i0 _ 2 32 Tryz.underlying23 hi hz0 hz1 hz2 rfl (by decide) lo v rows.length _ hs hown.row _ hx rfl ?_ hlen (by decide) hbase ?_
 · intro u hu
   simp at hu
   rcases hu with rfl | rfl <;> rfl
 · intro v' w' h1 h2
   have hb0 : Below w.heap.size w (w.alloc (.cells #[.int .i64 r.sig, .slice r.ba r.blocks.length r.bc] 64)) := (Below.refl _ _).alloc (Nat.le_refl _) _
   exact h v' w' (OwnFus.push (hown.keep hb0) h1 h2 (OwnBls.keep hr hb0)) h2
def RfProg (w : World) (o : Option PProg) (e : Ending) (w' : World) : Prop :=
 Below w.heap.size w w' ∧ ∃ r : PrR, e = .returned (.tuple #[r.val, .bool o.isSome]) ∧ ∀ p, o = some p → r.data = p ∧ SubTys w' w.heap.size (.slice r.ta r.types.length r.tc) r.types ∧ OwnFus w' w.heap.size (.slice r.fa r.funs.length r.fc) r.funs
structure ProgBox (w W : World) (x0 x1 : Value) : Prop where
 below : Below w.heap.size w W
 r : Blk W w.heap.size 25 #[.slice none 0 0, .slice none 0 0]
 x : Blk W (w.heap.size + 1) 25 #[x0, x1]
section
variable {w W W' : World} {x0 x1 : Value}
theorem ProgBox.start (w : World) : ProgBox w ((w.alloc (.cells #[.slice none 0 0, .slice none 0 0] 25)).alloc (.cells #[.slice none 0 0, .slice none 0 0] 25)) (.slice none 0 0) (.slice none 0 0) :=
 ⟨((Below.refl _ _).alloc (Nat.le_refl _) _).alloc (by rw [World.size_alloc]; omega) _, (Blk.new w _ _).alloc _, Blk.new2 w _ _ _⟩
theorem ProgBox.call (h : ProgBox w W x0 x1) (hb : Below W.heap.size W W') : ProgBox w W' x0 x1 :=
 ⟨h.below.trans (hb.mono h.below.size), h.r.beneath hb, h.x.beneath hb⟩
theorem ProgBox.new (h : ProgBox w W x0 x1) (cs : Array Value) (t : TypeId) : ProgBox w (W.alloc (.cells cs t)) x0 x1 := h.call ((Below.refl _ _).alloc (Nat.le_refl _) _)
theorem ProgBox.put0 (h : ProgBox w W x0 x1) (a : Value) : ProgBox w (W.setCell ⟨w.heap.size + 1, 0, none⟩ a) a x1 :=
 ⟨h.below.setCell (p := ⟨w.heap.size + 1, 0, none⟩) (Nat.le_succ _) a, h.r.far (p := ⟨w.heap.size + 1, 0, none⟩) (Nat.succ_ne_self _).symm a, h.x.put 0 a⟩
theorem ProgBox.put1 (h : ProgBox w W x0 x1) (a : Value) : ProgBox w (W.setCell ⟨w.heap.size + 1, 1, none⟩ a) x0 a :=
 ⟨h.below.setCell (p := ⟨w.heap.size + 1, 1, none⟩) (Nat.le_succ _) a, h.r.far (p := ⟨w.heap.size + 1, 1, none⟩) (Nat.succ_ne_self _).symm a, h.x.put 1 a⟩
theorem ProgBox.grownT (h : ProgBox w W x0 x1) {v : Value} {rows : List TyR} (ho : SubTys W w.heap.size v rows) (hg : W.grownBy W' v.ownBlock) : ProgBox w W' x0 x1 :=
 ⟨Below.grown h.below hg h.below.size (fun k hk => (ho.row.lt k hk).1), Blk.grown h.r hg (own_ne ho.row h.r (by decide)), Blk.grown h.x hg (own_ne ho.row h.x (by decide))⟩
theorem ProgBox.grownF (h : ProgBox w W x0 x1) {v : Value} {rows : List FuR} (ho : OwnFus W w.heap.size v rows) (hg : W.grownBy W' v.ownBlock) : ProgBox w W' x0 x1 :=
 ⟨Below.grown h.below hg h.below.size (fun k hk => (ho.row.lt k hk).1), Blk.grown h.r hg (own_ne ho.row h.r (by decide)), Blk.grown h.x hg (own_ne ho.row h.x (by decide))⟩
theorem ProgBox.spare {t : TypeId} (h : ProgBox w W x0 x1) (hs : Spare t W W') (hb : Below w.heap.size W W') (h1 : 25 ≠ t) : ProgBox w W' x0 x1 :=
 ⟨h.below.trans hb, hs.block _ _ _ _ h.r h1, hs.block _ _ _ _ h.x h1⟩
end
theorem sub_prog {w : World} {lo : Nat} {ta fa : Option Addr} {tc fc : Nat} {types : List TyR} {funs : List FuR} (ht : SubTys w lo (.slice ta types.length tc) types) (hf : OwnFus w lo (.slice fa funs.length fc) funs) : ProgIn w ⟨ta, tc, types, fa, fc, funs⟩ := by
 obtain ⟨A, c, e, h⟩ := ht.tab
 injection e with e1 _ e3
 subst e1 e3
 obtain ⟨A, c, e, h2, _⟩ := hf.form
 injection e with e1 _ e3
 subst e1 e3
 exact ⟨h, h2⟩
end Go.Proofs.YtbffebcjimhapaaGreatDoor
