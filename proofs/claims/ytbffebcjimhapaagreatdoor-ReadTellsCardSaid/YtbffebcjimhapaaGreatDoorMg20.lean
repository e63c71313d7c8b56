/-
  An instruction of a line.
-/
import Derived.Test.YtbffebcjimhapaaGreatDoorMg18
import Derived.Test.YtbffebcjimhapaaGreatDoorMg19
import Derived.Deep.Cut
import Derived.Deep.CutRange
import Derived.Deep.CutBlock
import Derived.Outline
import Derived.Deep.DeepCutAuto
namespace Go.Proofs.YtbffebcjimhapaaGreatDoor
set_option linter.unusedVariables false
set_option linter.unusedSimpArgs false
open Go.ChangeShapes Go.WideShapes Go.ChangeAt Go.RowKit
def answersB : List Bs → Bool
 | a :: _ :: c :: _ => a.head? == some 114 && c == bEq
 | _ => false
def regQ (op : Nat) (W : List Bs) : Option (Int × Int × List Bs) :=
 if hasT op 1 then (match markQ 114 W with
  | none => none
  | some q => (markQ 114 q.2).map fun q' => (q.1, q'.1, q'.2))
 else if hasT op 0 then (markQ 114 W).map fun q => (q.1, 0, q.2)
 else some (0, 0, W)
def argQ (op : Nat) (ty a b n : Int) (W : List Bs) : Option (PIns × List Bs) :=
 if op = 18 ∨ op = 19 then (marksQ 114 W).map fun q => (⟨op, ty, a, b, n, q.1, []⟩, q.2)
 else if op = 22 then (phiP W).map fun q => (⟨op, ty, a, b, n, q.2, q.1⟩, [])
 else some (⟨op, ty, a, b, n, [], []⟩, W)
def numQ (op : Nat) (ty a b : Int) (W : List Bs) : Option (PIns × List Bs) := match numberQ op W with
 | none => none
 | some q => argQ op ty a b q.1 q.2
def bodyQ (op : Nat) (ty : Int) (W : List Bs) : Option (PIns × List Bs) := match regQ op W with
 | none => none
 | some q => numQ op ty q.1 q.2.1 q.2.2
def opQ (ans : Bool) (ty : Int) : List Bs → Option (PIns × List Bs)
 | [] => none
 | o :: r => if opP o ≠ 0 ∧ hasT (opP o) 5 = ans then bodyQ (opP o) ty r else none
def insQ (W : List Bs) (reg : Int) : Option (PIns × List Bs) :=
 if answersB W then (match markQ 114 W with
  | none => none
  | some q => if q.1 = reg then (match markQ 116 q.2 with
    | none => none
    | some q' => opQ true q'.1 (q'.2.drop 1)) else none)
 else opQ false 0 W
def isIns (lo : Nat) (t : PIns) (v : Value) (w : World) : Prop := ∃ r : InR, v = r.val ∧ r.data = t ∧ r.Own w lo
section
variable {g : Nat} {w w' : World} {l : LsR} {x : LnR} {tv fv : Value}
theorem Rdr.ne0 (h : Rdr w g l x tv fv) (ht : TabW w) : g ≠ 0 := fun e => by
 subst e
 have h1 := ht 0 (by omega) 0 (by omega)
 rw [Nat.zero_mul, Nat.zero_add, h.blk.cells 0] at h1
 cases h1
theorem TabW.tn (ht : TabW w) (hg : g ≠ 0) (h : Tn g w w') : TabW w' := fun i hi j hj => by
 have h1 := ht i hi j hj
 have hk : w'.heap[0]? = w.heap[0]? := h.block 0 (World.block_lt_of_cell? w _ h1) (fun e => hg e.symm)
 rw [World.cell?_of_block hk]
 exact h1
theorem head_ofL {s : ByteArray} (h : 0 < s.size) : (toL s).head? = some (s[0]'h) := by
 rw [List.head?_eq_getElem?]
 exact toL_at s h
theorem byte_is {c : UInt8} : ((c.toNat : Int) == 114) = (some c == some (114 : UInt8)) := by
 rw [Bool.eq_iff_iff]
 simp only [beq_iff_eq, Option.some.injEq]
 constructor
 · intro h
   have h2 : c.toNat = (114 : UInt8).toNat := by have : ((114 : UInt8).toNat : Int) = 114 := rfl; omega
   exact UInt8.toNat_inj.1 h2
 · intro h
   rw [h]
   rfl
theorem ans_cases (h : x.Ok w) (hf : FullW x) (hx0 : x.xs ≠ []) : ∃ b off s, x.a = some ⟨b, off, none⟩ ∧ w.cell? ⟨b, off, none⟩ = some (.string s) ∧ 0 < x.xs.length ∧ ∃ hs : 0 < s.size,
    ((((s[0]'hs).toNat : Int) == 114) = false ∧ answersB x.data = false) ∨
    ((((s[0]'hs).toNat : Int) == 114) = true ∧ x.xs.length ≤ 2 ∧ answersB x.data = false) ∨
    ((((s[0]'hs).toNat : Int) == 114) = true ∧ 2 < x.xs.length ∧ ∃ s2, w.cell? ⟨b, off + 2, none⟩ = some (.string s2) ∧ (s2.toList == [61]) = answersB x.data) := by
 have hn : 0 < x.xs.length := by cases hxs : x.xs; exact absurd hxs hx0; exact Nat.succ_pos _
 obtain ⟨b, off, e, h1, h2, hc⟩ := h.at_.strs hn
 have c0 := hc 0 hn 0 (by omega)
 rw [Nat.zero_mul, Nat.add_zero] at c0
 obtain ⟨A, c, xs⟩ := x
 have e : A = some ⟨b, off, none⟩ := e
 subst e
 match xs, hn, hf, hc, c0 with
 | s :: t, hn, hf, hc, c0 =>
   have hs : 0 < s.size := hf s (List.mem_cons_self ..)
   refine ⟨b, off, s, rfl, c0, hn, hs, ?_⟩
   rw [byte_is, ← head_ofL hs]
   cases hh : (toL s).head? == some 114 with
   | false =>
     refine .inl ⟨rfl, ?_⟩
     match t with
     | [] => rfl
     | [_] => rfl
     | _ :: s2 :: _ =>
       show ((toL s).head? == some 114 && toL s2 == bEq) = false
       rw [hh]
       rfl
   | true =>
     refine .inr ?_
     match t, hc with
     | [], _ => exact .inl ⟨rfl, Nat.le_of_ble_eq_true rfl, rfl⟩
     | [_], _ => exact .inl ⟨rfl, Nat.le_of_ble_eq_true rfl, rfl⟩
     | s1 :: s2 :: t, hc =>
       have c2 := hc 2 (by show 2 < (s :: s1 :: s2 :: t).length; simp only [List.length_cons]; omega) 0 (by omega)
       refine .inr ⟨rfl, by show 2 < (s :: s1 :: s2 :: t).length; simp only [List.length_cons]; omega, s2, c2, ?_⟩
       show _ = ((toL s).head? == some 114 && toL s2 == bEq)
       rw [hh, ByteArray.toList_eq]
       rfl
theorem idx_op (b : Bs) : (opP b = 0 ∧ idxS opWords b ≤ 0) ∨ (opP b ≠ 0 ∧ opP b ≤ 22 ∧ idxS opWords b = (opP b : Int)) := by
 have hl : opWords.length = 23 := rfl
 unfold opP idxS
 rw [hl]
 by_cases h : opWords.idxOf b < 23
 · rw [if_pos h, if_pos h]
   by_cases h0 : opWords.idxOf b = 0
   · exact .inl ⟨h0, by omega⟩
   · exact .inr ⟨h0, by omega, rfl⟩
 · rw [if_neg h, if_neg h]
   exact .inl ⟨rfl, by omega⟩
theorem wrap_op : ∀ k, k < 23 → IntKind.u8.wrap ((k : Nat) : Int) = (k : Int) := by decide
theorem two_regs : ∀ k, k < 23 → hasT k 1 = true → hasT k 0 = true := by decide
theorem uses_len (b0 b1 b3 : Bool) (h : b1 = true → b0 = true) : (usesL b0 b1 b3 0 0 []).length = if b1 then 2 else if b0 then 1 else 0 := by
 cases b0 <;> cases b1 <;> cases b3 <;> first | rfl | exact absurd (h rfl) (by decide)
theorem opQ_no {ans : Bool} {ty : Int} {o : Bs} {r : List Bs} (h : ¬ (opP o ≠ 0 ∧ hasT (opP o) 5 = ans)) : opQ ans ty (o :: r) = none := if_neg h
theorem opQ_yes {ans : Bool} {ty : Int} {o : Bs} {r : List Bs} (h : opP o ≠ 0 ∧ hasT (opP o) 5 = ans) : opQ ans ty (o :: r) = bodyQ (opP o) ty r := if_pos h
theorem markQ_len {c : UInt8} {W W' : List Bs} {n : Int} (h : markQ c W = some (n, W')) : W'.length + 1 = W.length := by
 cases W with
 | nil => cases h
 | cons a r =>
   have h : (markP a c).map (fun n => (n, r)) = some (n, W') := h
   cases hm : markP a c with
   | none => rw [hm] at h; cases h
   | some k =>
     rw [hm] at h
     have e2 : (k, r) = (n, W') := Option.some.inj h
     have e3 : r = W' := congrArg Prod.snd e2
     rw [← e3]
     rfl
section
variable {k : Nat} {ty a b : Int} {W W1 W2 : List Bs}
theorem body_two0 (h : hasT k 1 = true) (h1 : markQ 114 W = none) : bodyQ k ty W = none := by unfold bodyQ regQ; rw [if_pos h, h1]
theorem body_two1 (h : hasT k 1 = true) (h1 : markQ 114 W = some (a, W1)) (h2 : markQ 114 W1 = none) : bodyQ k ty W = none := by
 unfold bodyQ regQ; rw [if_pos h, h1]; dsimp only; rw [h2]; rfl
theorem body_two (h : hasT k 1 = true) (h1 : markQ 114 W = some (a, W1)) (h2 : markQ 114 W1 = some (b, W2)) : bodyQ k ty W = numQ k ty a b W2 := by
 unfold bodyQ regQ; rw [if_pos h, h1]; dsimp only; rw [h2]; rfl
theorem body_one0 (h : hasT k 1 = false) (h0 : hasT k 0 = true) (h1 : markQ 114 W = none) : bodyQ k ty W = none := by
 unfold bodyQ regQ; rw [if_neg (by rw [h]; decide), if_pos h0, h1]; rfl
theorem body_one (h : hasT k 1 = false) (h0 : hasT k 0 = true) (h1 : markQ 114 W = some (a, W1)) : bodyQ k ty W = numQ k ty a 0 W1 := by
 unfold bodyQ regQ; rw [if_neg (by rw [h]; decide), if_pos h0, h1]; rfl
theorem body_no (h : hasT k 1 = false) (h0 : hasT k 0 = false) : bodyQ k ty W = numQ k ty 0 0 W := by
 unfold bodyQ regQ; rw [if_neg (by rw [h]; decide), if_neg (by rw [h0]; decide)]
end
theorem numberQ_len {op : Nat} {W W' : List Bs} {n : Int} (h : numberQ op W = some (n, W')) : W'.length ≤ W.length := by
 unfold numberQ at h
 split at h
 · cases W with
   | nil => cases h
   | cons a r =>
     have h : (numP a).map (fun n => (n, r)) = some (n, W') := h
     cases hm : numP a with
     | none => rw [hm] at h; cases h
     | some k =>
       rw [hm] at h
       have e3 : r = W' := congrArg Prod.snd (Option.some.inj h)
       rw [← e3]
       exact Nat.le_succ _
 · split at h
   · have := markQ_len h
     omega
   · split at h
     · cases W with
       | nil => cases h
       | cons a r =>
         have h : (smallP a).map (fun n => (n, r)) = some (n, W') := h
         cases hm : smallP a with
         | none => rw [hm] at h; cases h
         | some k =>
           rw [hm] at h
           have e3 : r = W' := congrArg Prod.snd (Option.some.inj h)
           rw [← e3]
           exact Nat.le_succ _
     · have e3 : W = W' := congrArg Prod.snd (Option.some.inj h)
       rw [e3]
       exact Nat.le_refl _
section
variable {k : Nat} {ty a b n : Int} {W W1 : List Bs}
theorem num_no (h : numberQ k W = none) : numQ k ty a b W = none := by unfold numQ; rw [h]
theorem num_yes (h : numberQ k W = some (n, W1)) : numQ k ty a b W = argQ k ty a b n W1 := by unfold numQ; rw [h]
theorem arg_marks (h : k = 18 ∨ k = 19) : argQ k ty a b n W = (marksQ 114 W).map fun q => (⟨k, ty, a, b, n, q.1, []⟩, q.2) := if_pos h
theorem arg_phi (h : ¬ (k = 18 ∨ k = 19)) (h2 : k = 22) : argQ k ty a b n W = (phiP W).map fun q => (⟨k, ty, a, b, n, q.2, q.1⟩, []) := by unfold argQ; rw [if_neg h, if_pos h2]
theorem arg_none (h : ¬ (k = 18 ∨ k = 19)) (h2 : ¬ k = 22) : argQ k ty a b n W = some (⟨k, ty, a, b, n, [], []⟩, W) := by unfold argQ; rw [if_neg h, if_neg h2]
end
set_option maxHeartbeats 6400000 in
set_option maxRecDepth 20000 in
theorem rins_any (h : Rdr w g l x tv fv) (hf : FullW x) (hx0 : x.xs ≠ []) (hx : x.xs.length ≤ 20000) (hT : TabW w) (reg : Int) :
    Calls Tryz.prog 139 #[.pointer (some ⟨g, 0, none⟩), .int .i64 reg] w (RdOut w g l tv fv (isIns w.heap.size) (insQ x.data reg)) := by
 have HB0 := Lib.hid (Bx.new h 74 #[.int .u8 0, .int .i64 0, .int .i64 0, .int .i64 0, .int .i64 0, .slice none 0 0, .slice none 0 0])
 have hg0 := h.ne0 hT
 have HT := Lib.hid hT
 have HX := Lib.hid hx
 clear h hT hx
 go_enter Tryz.func139, Tryz.ntmps139
 go_upto_region 1 with fail
 go_cut [5] (fun s5 wx => s5 = .bool (answersB x.data) ∧ wx = w.alloc (.cells #[.int .u8 0, .int .i64 0, .int .i64 0, .int .i64 0, .int .i64 0, .slice none 0 0, .slice none 0 0] 74))
 case first =>
  obtain ⟨b, off, s, ha, hc, hn, q3, hcase⟩ := ans_cases HB0.out.rd.words hf hx0
  have c1 : (w.alloc (.cells #[.int .u8 0, .int .i64 0, .int .i64 0, .int .i64 0, .int .i64 0, .slice none 0 0, .slice none 0 0] 74)).cell? ⟨g, 1, none⟩ = some (.slice (some ⟨b, off, none⟩) x.xs.length x.c) := (HB0.out.rd.blk.cells 1).trans (by rw [ha]; rfl)
  have q1 : (0 : Int) < x.xs.length := by omega
  have q4 : (0 : Int) < s.size := by omega
  rcases hcase with ⟨e1, e2⟩ | ⟨e1, e3, e2⟩ | ⟨e1, e3, s2, e4, e2⟩
  · have HE := Lib.hid e2
    clear e2
    go_wp2_with fail
    go_meet
    exact ⟨by rw [HE.out], rfl⟩
  · have HE := Lib.hid e2
    have e5 : (x.xs.length : Int) ≤ 2 := by omega
    clear e2
    go_wp2_with fail
    go_meet
    exact ⟨by rw [HE.out], rfl⟩
  · have HE := Lib.hid e2
    have e5 : (2 : Int) < (x.xs.length : Int) := by omega
    clear e2
    go_wp2_with fail
    go_meet
    exact ⟨by rw [← HE.out], rfl⟩
 case rest =>
  obtain ⟨rfl, rfl⟩ := hcut
  have HC114 := Lib.hid (show ((114 : UInt8).toNat : Int) = 114 from rfl)
  have HC116 := Lib.hid (show ((116 : UInt8).toNat : Int) = 116 from rfl)
  have hyes := need_yes
  have hno := need_no
  obtain ⟨ans, hans⟩ : ∃ ans, answersB x.data = ans := ⟨_, rfl⟩
  rw [hans]
  go_upto_if 36 with fail
  go_cut [5] (fun s5 wx => s5 = .bool ans ∧ ∃ (ty : Int) (x1 : LnR), Hid (insQ x.data reg = opQ ans ty x1.data) ∧ Hid (x1.xs.length ≤ 20000) ∧ Hid (Bx w wx g l x1 tv fv w.heap.size 74 #[.int .u8 0, .int .i64 ty, .int .i64 0, .int .i64 0, .int .i64 0, .slice none 0 0, .slice none 0 0]))
  case first =>
   cases ans with
   | false =>
     go_wp2_with fail
     go_meet
     exact ⟨rfl, 0, x, Lib.hid (by unfold insQ; rw [hans]; rfl), HX, HB0⟩
   | true =>
     have HM := Lib.hid (mark_any HB0.out.rd 114)
     rw [HC114.out] at HM
     have k0 := HB0.out.blk.cells 0; have k1 := HB0.out.blk.cells 1; have k2 := HB0.out.blk.cells 2; have k3 := HB0.out.blk.cells 3; have k4 := HB0.out.blk.cells 4; have k5 := HB0.out.blk.cells 5; have k6 := HB0.out.blk.cells 6; have kz := HB0.out.blk.free
     have hins : insQ x.data reg = (match markQ 114 x.data with
      | none => none
      | some q => if q.1 = reg then (match markQ 116 q.2 with
        | none => none
        | some q' => opQ true q'.1 (q'.2.drop 1)) else none) := by unfold insQ; rw [hans]; rfl
     clear hans
     cases hq : markQ 114 x.data with
     | none =>
       rw [hq] at HM hins
       have HI := Lib.hid hins
       clear hq hins
       go_wp2_with (go_at_call 100; refine HM.out.mono ?_; rintro e w2 ⟨ht, rfl⟩; have HT2 := Lib.hid ht; clear ht)
       exact ⟨rfl, HB0.out.tn.trans HT2.out, by rw [HI.out]⟩
     | some q =>
       obtain ⟨n, W⟩ := q
       rw [hq] at HM hins
       dsimp only at hins
       have HQ := Lib.hid hq
       clear hq
       by_cases hn : n = reg
       · rw [if_pos hn] at hins
         subst hn
         cases hq2 : markQ 116 W with
         | none =>
           rw [hq2] at hins
           have HI := Lib.hid hins
           have HQ2 := Lib.hid hq2
           clear hins hq2
           go_wp2_with (first
            | (go_at_call 100; refine HM2.out.mono ?_; rintro e w4 ⟨ht, rfl⟩; have HT4 := Lib.hid ht; clear ht)
            | (go_at_call 100; refine HM.out.mono ?_; rintro e w2 ⟨ht, v2, x2, rfl, hv, hx2, hr⟩; have hv : v2 = .int .i64 n := hv; subst hv; have HB2 := Lib.hid (Bx.call HB0.out hr ht (by decide)); have HX2 := Lib.hid hx2; clear ht hx2 hr; have m0 := HB2.out.blk.cells 0; have m1 := HB2.out.blk.cells 1; have m2 := HB2.out.blk.cells 2; have m3 := HB2.out.blk.cells 3; have m4 := HB2.out.blk.cells 4; have m5 := HB2.out.blk.cells 5; have m6 := HB2.out.blk.cells 6; have mz := HB2.out.blk.free; have HM2 := Lib.hid (mark_any HB2.out.rd 116); rw [HX2.out, HQ2.out, HC116.out] at HM2)
            | (go_at_call 60; refine (hyes _).mono ?_; rintro e w3 ⟨rfl, rfl⟩))
           exact ⟨rfl, HB2.out.tn.trans HT4.out, by rw [HI.out]⟩
         | some q2 =>
           obtain ⟨ty, W2⟩ := q2
           rw [hq2] at hins
           dsimp only at hins
           have HI := Lib.hid hins
           have HQ2 := Lib.hid hq2
           clear hins hq2
           go_wp2_with (first
            | (go_at_call 100; refine HM2.out.mono ?_; rintro e w4 ⟨ht, v2, x4, rfl, hv, hx2, hr⟩; have hv : v2 = .int .i64 ty := hv; subst hv; have HB4 := Lib.hid (Bx.call HB2.out hr ht (by decide)); have HX4 := Lib.hid hx2; clear ht hx2 hr; have p0 := HB4.out.blk.cells 0; have p1 := HB4.out.blk.cells 1; have p2 := HB4.out.blk.cells 2; have p3 := HB4.out.blk.cells 3; have p4 := HB4.out.blk.cells 4; have p5 := HB4.out.blk.cells 5; have p6 := HB4.out.blk.cells 6; have pz := HB4.out.blk.free; have HB5 := Lib.hid (Bx.put HB4.out (by decide) (by decide) (by decide) 1 (.int .i64 ty)))
            | (go_at_call 100; refine HM.out.mono ?_; rintro e w2 ⟨ht, v2, x2, rfl, hv, hx2, hr⟩; have hv : v2 = .int .i64 n := hv; subst hv; have HB2 := Lib.hid (Bx.call HB0.out hr ht (by decide)); have HX2 := Lib.hid hx2; clear ht hx2 hr; have m0 := HB2.out.blk.cells 0; have m1 := HB2.out.blk.cells 1; have m2 := HB2.out.blk.cells 2; have m3 := HB2.out.blk.cells 3; have m4 := HB2.out.blk.cells 4; have m5 := HB2.out.blk.cells 5; have m6 := HB2.out.blk.cells 6; have mz := HB2.out.blk.free; have HM2 := Lib.hid (mark_any HB2.out.rd 116); rw [HX2.out, HQ2.out, HC116.out] at HM2)
            | (go_at_call 60; refine (hyes _).mono ?_; rintro e w3 ⟨rfl, rfl⟩)
            | (go_at_call 58; refine pause ?_))
           cases hx4 : x4.xs with
           | nil =>
             refine resume ?_
             refine (word_no HB5.out.rd hx4).mono ?_
             rintro e w5 ⟨rfl, rfl⟩
             refine ⟨rfl, HB5.out.tn, ?_⟩
             rw [HI.out, ← HX4.out, show x4.data = [] by show x4.xs.map toL = []; rw [hx4]; rfl]
             rfl
           | cons s4 t4 =>
             have HD4 : Hid (x4.rest.data = W2.drop 1) := Lib.hid (by rw [← HX4.out]; show (x4.xs.drop 1).map toL = (x4.xs.map toL).drop 1; rw [List.map_drop])
             refine resume ?_
             refine (word_yes HB5.out.rd hx4).mono ?_
             rintro e w5 ⟨rfl, hr, ht⟩
             have HB6 := Lib.hid (Bx.call HB5.out hr ht (by decide))
             clear hr ht hx4
             go_wp2_with fail
             go_meet
             exact ⟨rfl, ty, x4.rest, Lib.hid (by rw [HI.out, HD4.out]), Lib.hid (by rw [← LnR.data_len, HD4.out, List.length_drop]; have h1 := markQ_len HQ.out; have h2 := markQ_len HQ2.out; have h3 := HX.out; rw [← LnR.data_len] at h3; omega), HB6⟩
       · rw [if_neg hn] at hins
         have HI := Lib.hid hins
         have hne : (n == reg) = false := by simpa using hn
         clear hins hn
         go_wp2_with (first
          | (go_at_call 100; refine HM.out.mono ?_; rintro e w2 ⟨ht, v2, x2, rfl, hv, hx2, hr⟩; have hv : v2 = .int .i64 n := hv; subst hv; have HB2 := Lib.hid (Bx.call HB0.out hr ht (by decide)); have Hx2 := Lib.hid hx2; clear ht hx2 hr; skip)
          | (go_at_call 60; refine (hno _).mono ?_; rintro e w3 ⟨rfl, rfl⟩))
         exact ⟨rfl, HB2.out.tn, by rw [HI.out]⟩
  case rest =>
   obtain ⟨rfl, ty, x1, HI, HX1, HB1⟩ := hcut
   clear hans
   have HBd := Lib.hid (HB1.out.on ((Below.refl _ _).drew))
   go_wp2_with fail
   refine wp_region_T (fun _ => True) 6 (by kernel_rfl) trivial (fun hHeld => ?_)
   refine wpAnyT_take (i := 1) (by kernel_rfl) (by decide) rfl (by kernel_rfl) (by kernel_rfl) (by kernel_rfl) (fun _ _ _ h => h) (Or.inl ⟨by rfl, by (intro w hSw; (try dsimp only at hSw); go_simp; (try with_reducible rfl))⟩) (by assumption) ?_; (try simp only [Act.put, List.setIfInBounds_toArray, List.set_cons_zero, List.set_cons_succ])
   refine wpAnyT_take (i := 2) (by kernel_rfl) (by decide) rfl (by kernel_rfl) (by kernel_rfl) (by kernel_rfl) (fun _ _ _ h => h) (Or.inl ⟨by rfl, by (intro w hSw; (try dsimp only at hSw); go_simp; (try with_reducible rfl))⟩) (by assumption) ?_; (try simp only [Act.put, List.setIfInBounds_toArray, List.set_cons_zero, List.set_cons_succ])
   refine wpAnyT_take (i := 3) (by kernel_rfl) (by decide) rfl (by kernel_rfl) (by kernel_rfl) (by kernel_rfl) (fun _ _ _ h => h) (Or.inl ⟨by rfl, by (intro w hSw; (try dsimp only at hSw); go_simp; (try with_reducible rfl))⟩) (by assumption) ?_; (try simp only [Act.put, List.setIfInBounds_toArray, List.set_cons_zero, List.set_cons_succ])
   refine wpAnyT_one (i := 0) (by kernel_rfl) rfl (fun K hK => ?_)
   go_simp
   refine (ops_any _).mono ?_
   rintro e w6 ⟨rfl, hs6, hb6⟩
   have HB6 := Lib.hid (HBd.out.on hb6)
   have HS6 := Lib.hid hs6
   clear hs6 hb6
   dsimp only
   refine hK.out _ _ (fun _ => trivial) (fun hH => ?_); clear hHeld hK K; have hHeld := hH (by decide); clear hH
   refine wpAnyT_one (i := 4) (by kernel_rfl) rfl (fun K hK => ?_)
   go_simp
   cases hx1 : x1.xs with
   | nil =>
     refine (word_no HB6.out.rd hx1).mono ?_
     rintro e w7 ⟨rfl, rfl⟩
     refine ⟨rfl, HB6.out.tn, ?_⟩
     rw [HI.out, show x1.data = [] by show x1.xs.map toL = []; rw [hx1]; rfl]
     rfl
   | cons s1 t1 =>
     have HD1 : Hid (x1.data = toL s1 :: x1.rest.data) := Lib.hid (by show x1.xs.map toL = toL s1 :: (x1.xs.drop 1).map toL; rw [hx1]; rfl)
     refine (word_yes HB6.out.rd hx1).mono ?_
     rintro e w7 ⟨rfl, hr, ht⟩
     have HB7 := Lib.hid (Bx.call HB6.out hr ht (by decide))
     have HS7 := Lib.hid (strs_new (xs := opS) (ht.blk HS6.out (by have h2 := HB1.out.rd.blk.lt; show wc.heap.size ≠ g; omega)))
     clear hr ht hx1
     obtain ⟨r, hr⟩ : ∃ r, idxS opWords (toL s1) = r := ⟨_, rfl⟩
     have HIX := Lib.hid (indexStrs_any (w := w7) (r := r) (A := some ⟨wc.heap.size, 0, none⟩) (c := 23) (xs := opS) ⟨Nat.le_refl _, (by decide), (fun h => by cases h)⟩ HS7.out s1 (by rw [opS_words]; exact hr))
     have HR := Lib.hid hr
     clear hr
     dsimp only
     refine hK.out _ _ (fun _ => trivial) (fun hH => ?_); clear hHeld hK K; have hHeld := hH (by decide); clear hH
     refine wpAnyT_one (i := 5) (by kernel_rfl) rfl (fun K hK => ?_)
     go_simp
     refine HIX.out.mono ?_
     rintro e w8 ⟨rfl, rfl⟩
     dsimp only
     refine hK.out _ _ (fun _ => trivial) (fun hH => ?_); clear hHeld hK K; have hHeld := hH (by decide); clear hH
     refine wpAnyT_one (i := 6) (by kernel_rfl) rfl (fun K hK => ?_)
     go_simp
     refine hK.out _ _ (fun e => absurd rfl e) (fun hH => ?_); refine wpAnyT_done (by kernel_rfl) ?_ _; clear hHeld hK K hH
     have k0 := HB7.out.blk.cells 0; have k1 := HB7.out.blk.cells 1; have k2 := HB7.out.blk.cells 2; have k3 := HB7.out.blk.cells 3; have k4 := HB7.out.blk.cells 4; have k5 := HB7.out.blk.cells 5; have k6 := HB7.out.blk.cells 6; have kz := HB7.out.blk.free
     rcases idx_op (toL s1) with ⟨h0, hle⟩ | ⟨h0, h22, heq⟩
     · have hr0 : r ≤ 0 := by rw [← HR.out]; exact hle
       have HI2 : Hid (insQ x.data reg = none) := Lib.hid (by rw [HI.out, HD1.out]; exact opQ_no fun h => h.1 h0)
       clear hle h0
       go_wp2_with (go_at_call 60; refine (hno _).mono ?_; rintro e w9 ⟨rfl, rfl⟩)
       exact ⟨rfl, HB7.out.tn, by rw [HI2.out]⟩
     · obtain ⟨k, hk⟩ : ∃ k, opP (toL s1) = k := ⟨_, rfl⟩
       have hrk : r = (k : Int) := by rw [← HR.out, heq, hk]
       have hk22 : k ≤ 22 := by omega
       have hk0 : (0 : Int) < (k : Int) := by omega
       have hw := wrap_op k (by omega)
       obtain ⟨b5, h5⟩ : ∃ b5, hasT k 5 = b5 := ⟨_, rfl⟩
       have HAN := Lib.hid (answers_any (Has.mk' k) (by omega) w8 (HT.out.tn hg0 HB7.out.tn))
       rw [h5] at HAN
       subst hrk
       by_cases hb5 : b5 = ans
       · have HI2 : Hid (insQ x.data reg = bodyQ k ty x1.rest.data) := Lib.hid (by rw [HI.out, HD1.out, opQ_yes ⟨h0, by rw [hk, h5]; exact hb5⟩, hk])
         subst hb5
         clear h0 heq HIX h22 hk
         go_upto_region 9 with (first
          | (go_at_call 72; refine HAN.out.mono ?_; rintro e w9 ⟨rfl, hb9⟩; have HB9 := Lib.hid (HB7.out.on hb9); clear hb9; have m0 := HB9.out.blk.cells 0; have m1 := HB9.out.blk.cells 1; have m2 := HB9.out.blk.cells 2; have m3 := HB9.out.blk.cells 3; have m4 := HB9.out.blk.cells 4; have m5 := HB9.out.blk.cells 5; have m6 := HB9.out.blk.cells 6; have mz := HB9.out.blk.free)
          | (go_at_call 60; refine (hyes _).mono ?_; rintro e w10 ⟨rfl, rfl⟩))
         have HBA := Lib.hid (Bx.put HB9.out (by decide) (by decide) (by decide) 0 (.int .u8 (k : Int)))
         have p0 := HBA.out.blk.cells 0; have p1 := HBA.out.blk.cells 1; have p2 := HBA.out.blk.cells 2; have p3 := HBA.out.blk.cells 3; have p4 := HBA.out.blk.cells 4; have p5 := HBA.out.blk.cells 5; have p6 := HBA.out.blk.cells 6; have pz := HBA.out.blk.free
         obtain ⟨b0, hb0⟩ : ∃ b, hasT k 0 = b := ⟨_, rfl⟩
         obtain ⟨b1, hb1⟩ : ∃ b, hasT k 1 = b := ⟨_, rfl⟩
         obtain ⟨b2, hb2⟩ : ∃ b, hasT k 2 = b := ⟨_, rfl⟩
         obtain ⟨b3, hb3⟩ : ∃ b, hasT k 3 = b := ⟨_, rfl⟩
         obtain ⟨b4, hb4⟩ : ∃ b, hasT k 4 = b := ⟨_, rfl⟩
         have h21 : b1 = true → b0 = true := by rw [← hb0, ← hb1]; exact two_regs k (by omega)
         have HU := Lib.hid (uses_any (op := k) (b0 := b0) (b1 := b1) (b2 := b2) (b3 := b3) (b4 := b4) (b5 := b5) ⟨hb0, hb1, hb2, hb3, hb4, h5⟩ (by omega) 0 0 0 0 (A := none) (ca := 0) (args := []) ⟨Nat.le_refl _, Nat.zero_le _, fun _ => ⟨rfl, rfl⟩⟩ (HT.out.tn hg0 HBA.out.tn) (fun h => absurd h (by decide)) (by decide) none 0 0)
         obtain ⟨N, hN⟩ : ∃ N, (usesL b0 b1 b3 0 0 []).length = N := ⟨_, rfl⟩
         have hN2 : N = if b1 then 2 else if b0 then 1 else 0 := by rw [← hN]; exact uses_len b0 b1 b3 h21
         have HN := Lib.hid hN
         have HN2 := Lib.hid hN2
         have HB0' := Lib.hid hb0
         have HB1' := Lib.hid hb1
         clear hN hN2 h21 hb2 hb3 hb4 hb0 hb1
         go_upto_block 0 with (go_at_call 115; refine HU.out.mono ?_; rintro e wU ⟨v, rfl, hownU, hbU⟩; obtain ⟨AU, cU, rfl, _⟩ := hownU.form; rw [HN.out]; have HBU := Lib.hid (HBA.out.on hbU); have s0 := HBU.out.blk.cells 0; have s1 := HBU.out.blk.cells 1; have s2 := HBU.out.blk.cells 2; have s3 := HBU.out.blk.cells 3; have s4 := HBU.out.blk.cells 4; have s5 := HBU.out.blk.cells 5; have s6 := HBU.out.blk.cells 6; have sz := HBU.out.blk.free; clear hownU hbU)
         have HXR : Hid (x1.rest.data.length ≤ 20000) := Lib.hid (by have h1 := HX1.out; rw [LnR.data_len]; show (x1.xs.drop 1).length ≤ _; rw [List.length_drop]; omega)
         go_cut [6] (fun s6 wx => s6 = .int .i64 (k : Int) ∧ ∃ (a b : Int) (x6 : LnR), Hid (insQ x.data reg = numQ k ty a b x6.data) ∧ Hid (x6.xs.length ≤ 20000) ∧ Hid (Bx w wx g l x6 tv fv w.heap.size 74 #[.int .u8 (k : Int), .int .i64 ty, .int .i64 a, .int .i64 b, .int .i64 0, .slice none 0 0, .slice none 0 0]))
         case first =>
          have HBd2 := Lib.hid (HBU.out.on ((Below.refl _ _).drew))
          cases b1 with
          | true =>
            have q1 : (1 : Int) < (N : Int) := by have := HN2.out; rw [if_pos rfl] at this; omega
            have HM := Lib.hid (mark_any HBd2.out.rd 114)
            rw [HC114.out] at HM
            cases hq : markQ 114 x1.rest.data with
            | none =>
              have HI3 : Hid (insQ x.data reg = none) := Lib.hid (by rw [HI2.out]; exact body_two0 HB1'.out hq)
              rw [hq] at HM
              clear hq
              go_wp2_with fail
              refine wp_region_T (fun _ => True) 11 (by kernel_rfl) trivial (fun hHeld => ?_)
              refine wpAnyT_take (i := 0) (by kernel_rfl) (by decide) rfl (by kernel_rfl) (by kernel_rfl) (by kernel_rfl) (fun _ _ _ h => h) (Or.inl ⟨by rfl, by (intro w hSw; (try dsimp only at hSw); go_simp; (try with_reducible rfl))⟩) (by assumption) ?_; (try simp only [Act.put, List.setIfInBounds_toArray, List.set_cons_zero, List.set_cons_succ])
              refine wpAnyT_take (i := 1) (by kernel_rfl) (by decide) rfl (by kernel_rfl) (by kernel_rfl) (by kernel_rfl) (fun _ _ _ h => h) (Or.inl ⟨by rfl, by (intro w hSw; (try dsimp only at hSw); go_simp; (try with_reducible rfl))⟩) (by assumption) ?_; (try simp only [Act.put, List.setIfInBounds_toArray, List.set_cons_zero, List.set_cons_succ])
              refine wpAnyT_take (i := 2) (by kernel_rfl) (by decide) rfl (by kernel_rfl) (by kernel_rfl) (by kernel_rfl) (fun _ _ _ h => h) (Or.inl ⟨by rfl, by (intro w hSw; (try dsimp only at hSw); go_simp; (try with_reducible rfl))⟩) (by assumption) ?_; (try simp only [Act.put, List.setIfInBounds_toArray, List.set_cons_zero, List.set_cons_succ])
              refine wpAnyT_take (i := 4) (by kernel_rfl) (by decide) rfl (by kernel_rfl) (by kernel_rfl) (by kernel_rfl) (fun _ _ _ h => h) (Or.inl ⟨by rfl, by (intro w hSw; (try dsimp only at hSw); go_simp; (try with_reducible rfl))⟩) (by assumption) ?_; (try simp only [Act.put, List.setIfInBounds_toArray, List.set_cons_zero, List.set_cons_succ])
              refine wpAnyT_take (i := 5) (by kernel_rfl) (by decide) rfl (by kernel_rfl) (by kernel_rfl) (by kernel_rfl) (fun _ _ _ h => h) (Or.inl ⟨by rfl, by (intro w hSw; (try dsimp only at hSw); go_simp; (try with_reducible rfl))⟩) (by assumption) ?_; (try simp only [Act.put, List.setIfInBounds_toArray, List.set_cons_zero, List.set_cons_succ])
              refine wpAnyT_take (i := 6) (by kernel_rfl) (by decide) rfl (by kernel_rfl) (by kernel_rfl) (by kernel_rfl) (fun _ _ _ h => h) (Or.inl ⟨by rfl, by (intro w hSw; (try dsimp only at hSw); go_simp; (try with_reducible rfl))⟩) (by assumption) ?_; (try simp only [Act.put, List.setIfInBounds_toArray, List.set_cons_zero, List.set_cons_succ])
              refine wpAnyT_one (i := 3) (by kernel_rfl) rfl (fun K hK => ?_)
              go_simp
              refine HM.out.mono ?_
              rintro e w5 ⟨ht, rfl⟩
              exact ⟨rfl, HBd2.out.tn.trans ht, by rw [HI3.out]⟩
            | some q =>
              obtain ⟨a, W1⟩ := q
              rw [hq] at HM
              cases hq3 : markQ 114 W1 with
              | none =>
                have HI3 : Hid (insQ x.data reg = none) := Lib.hid (by rw [HI2.out]; exact body_two1 HB1'.out hq hq3)
                have HQ3 := Lib.hid hq3
                clear hq hq3
                go_wp2_with fail
                refine wp_region_T (fun _ => True) 11 (by kernel_rfl) trivial (fun hHeld => ?_)
                refine wpAnyT_take (i := 0) (by kernel_rfl) (by decide) rfl (by kernel_rfl) (by kernel_rfl) (by kernel_rfl) (fun _ _ _ h => h) (Or.inl ⟨by rfl, by (intro w hSw; (try dsimp only at hSw); go_simp; (try with_reducible rfl))⟩) (by assumption) ?_; (try simp only [Act.put, List.setIfInBounds_toArray, List.set_cons_zero, List.set_cons_succ])
                refine wpAnyT_take (i := 1) (by kernel_rfl) (by decide) rfl (by kernel_rfl) (by kernel_rfl) (by kernel_rfl) (fun _ _ _ h => h) (Or.inl ⟨by rfl, by (intro w hSw; (try dsimp only at hSw); go_simp; (try with_reducible rfl))⟩) (by assumption) ?_; (try simp only [Act.put, List.setIfInBounds_toArray, List.set_cons_zero, List.set_cons_succ])
                refine wpAnyT_take (i := 2) (by kernel_rfl) (by decide) rfl (by kernel_rfl) (by kernel_rfl) (by kernel_rfl) (fun _ _ _ h => h) (Or.inl ⟨by rfl, by (intro w hSw; (try dsimp only at hSw); go_simp; (try with_reducible rfl))⟩) (by assumption) ?_; (try simp only [Act.put, List.setIfInBounds_toArray, List.set_cons_zero, List.set_cons_succ])
                refine wpAnyT_take (i := 4) (by kernel_rfl) (by decide) rfl (by kernel_rfl) (by kernel_rfl) (by kernel_rfl) (fun _ _ _ h => h) (Or.inl ⟨by rfl, by (intro w hSw; (try dsimp only at hSw); go_simp; (try with_reducible rfl))⟩) (by assumption) ?_; (try simp only [Act.put, List.setIfInBounds_toArray, List.set_cons_zero, List.set_cons_succ])
                refine wpAnyT_take (i := 5) (by kernel_rfl) (by decide) rfl (by kernel_rfl) (by kernel_rfl) (by kernel_rfl) (fun _ _ _ h => h) (Or.inl ⟨by rfl, by (intro w hSw; (try dsimp only at hSw); go_simp; (try with_reducible rfl))⟩) (by assumption) ?_; (try simp only [Act.put, List.setIfInBounds_toArray, List.set_cons_zero, List.set_cons_succ])
                refine wpAnyT_take (i := 6) (by kernel_rfl) (by decide) rfl (by kernel_rfl) (by kernel_rfl) (by kernel_rfl) (fun _ _ _ h => h) (Or.inl ⟨by rfl, by (intro w hSw; (try dsimp only at hSw); go_simp; (try with_reducible rfl))⟩) (by assumption) ?_; (try simp only [Act.put, List.setIfInBounds_toArray, List.set_cons_zero, List.set_cons_succ])
                refine wpAnyT_one (i := 3) (by kernel_rfl) rfl (fun K hK => ?_)
                go_simp
                refine HM.out.mono ?_
                rintro e w5 ⟨ht, v5, x5, rfl, hv, hx5, hr⟩
                have hv : v5 = .int .i64 a := hv
                subst hv
                have HB5 := Lib.hid (Bx.call HBd2.out hr ht (by decide))
                have HX5 := Lib.hid hx5
                clear ht hx5 hr
                have HM3 := Lib.hid (mark_any HB5.out.rd 114)
                rw [HX5.out, HQ3.out, HC114.out] at HM3
                dsimp only
                refine hK.out _ _ (fun _ => trivial) (fun hH => ?_); clear hHeld hK K; have hHeld := hH (by decide); clear hH
                refine wpAnyT_take (i := 8) (by kernel_rfl) (by decide) rfl (by kernel_rfl) (by kernel_rfl) (by kernel_rfl) (fun _ _ _ h => h) (Or.inl ⟨by rfl, by (intro w hSw; (try dsimp only at hSw); go_simp; (try with_reducible rfl))⟩) (by assumption) ?_; (try simp only [Act.put, List.setIfInBounds_toArray, List.set_cons_zero, List.set_cons_succ])
                refine wpAnyT_one (i := 7) (by kernel_rfl) rfl (fun K hK => ?_)
                go_simp
                refine HM3.out.mono ?_
                rintro e w6 ⟨ht, rfl⟩
                exact ⟨rfl, HB5.out.tn.trans ht, by rw [HI3.out]⟩
              | some q2 =>
                obtain ⟨b, W2⟩ := q2
                have HI3 : Hid (insQ x.data reg = numQ k ty a b W2) := Lib.hid (by rw [HI2.out]; exact body_two HB1'.out hq hq3)
                have HLW : Hid (W2.length ≤ 20000) := Lib.hid (by have h1 := markQ_len hq; have h2 := markQ_len hq3; have h3 := HXR.out; omega)
                have HQ3 := Lib.hid hq3
                clear hq hq3
                go_wp2_with fail
                refine wp_region_T (fun _ => True) 11 (by kernel_rfl) trivial (fun hHeld => ?_)
                refine wpAnyT_take (i := 0) (by kernel_rfl) (by decide) rfl (by kernel_rfl) (by kernel_rfl) (by kernel_rfl) (fun _ _ _ h => h) (Or.inl ⟨by rfl, by (intro w hSw; (try dsimp only at hSw); go_simp; (try with_reducible rfl))⟩) (by assumption) ?_; (try simp only [Act.put, List.setIfInBounds_toArray, List.set_cons_zero, List.set_cons_succ])
                refine wpAnyT_take (i := 1) (by kernel_rfl) (by decide) rfl (by kernel_rfl) (by kernel_rfl) (by kernel_rfl) (fun _ _ _ h => h) (Or.inl ⟨by rfl, by (intro w hSw; (try dsimp only at hSw); go_simp; (try with_reducible rfl))⟩) (by assumption) ?_; (try simp only [Act.put, List.setIfInBounds_toArray, List.set_cons_zero, List.set_cons_succ])
                refine wpAnyT_take (i := 2) (by kernel_rfl) (by decide) rfl (by kernel_rfl) (by kernel_rfl) (by kernel_rfl) (fun _ _ _ h => h) (Or.inl ⟨by rfl, by (intro w hSw; (try dsimp only at hSw); go_simp; (try with_reducible rfl))⟩) (by assumption) ?_; (try simp only [Act.put, List.setIfInBounds_toArray, List.set_cons_zero, List.set_cons_succ])
                refine wpAnyT_take (i := 4) (by kernel_rfl) (by decide) rfl (by kernel_rfl) (by kernel_rfl) (by kernel_rfl) (fun _ _ _ h => h) (Or.inl ⟨by rfl, by (intro w hSw; (try dsimp only at hSw); go_simp; (try with_reducible rfl))⟩) (by assumption) ?_; (try simp only [Act.put, List.setIfInBounds_toArray, List.set_cons_zero, List.set_cons_succ])
                refine wpAnyT_take (i := 5) (by kernel_rfl) (by decide) rfl (by kernel_rfl) (by kernel_rfl) (by kernel_rfl) (fun _ _ _ h => h) (Or.inl ⟨by rfl, by (intro w hSw; (try dsimp only at hSw); go_simp; (try with_reducible rfl))⟩) (by assumption) ?_; (try simp only [Act.put, List.setIfInBounds_toArray, List.set_cons_zero, List.set_cons_succ])
                refine wpAnyT_take (i := 6) (by kernel_rfl) (by decide) rfl (by kernel_rfl) (by kernel_rfl) (by kernel_rfl) (fun _ _ _ h => h) (Or.inl ⟨by rfl, by (intro w hSw; (try dsimp only at hSw); go_simp; (try with_reducible rfl))⟩) (by assumption) ?_; (try simp only [Act.put, List.setIfInBounds_toArray, List.set_cons_zero, List.set_cons_succ])
                refine wpAnyT_one (i := 3) (by kernel_rfl) rfl (fun K hK => ?_)
                go_simp
                refine HM.out.mono ?_
                rintro e w5 ⟨ht, v5, x5, rfl, hv, hx5, hr⟩
                have hv : v5 = .int .i64 a := hv
                subst hv
                have HB5 := Lib.hid (Bx.call HBd2.out hr ht (by decide))
                have HX5 := Lib.hid hx5
                clear ht hx5 hr
                have HM3 := Lib.hid (mark_any HB5.out.rd 114)
                rw [HX5.out, HQ3.out, HC114.out] at HM3
                dsimp only
                refine hK.out _ _ (fun _ => trivial) (fun hH => ?_); clear hHeld hK K; have hHeld := hH (by decide); clear hH
                refine wpAnyT_take (i := 8) (by kernel_rfl) (by decide) rfl (by kernel_rfl) (by kernel_rfl) (by kernel_rfl) (fun _ _ _ h => h) (Or.inl ⟨by rfl, by (intro w hSw; (try dsimp only at hSw); go_simp; (try with_reducible rfl))⟩) (by assumption) ?_; (try simp only [Act.put, List.setIfInBounds_toArray, List.set_cons_zero, List.set_cons_succ])
                refine wpAnyT_one (i := 7) (by kernel_rfl) rfl (fun K hK => ?_)
                go_simp
                refine HM3.out.mono ?_
                rintro e w6 ⟨ht, v6, x6, rfl, hv, hx6, hr⟩
                have hv : v6 = .int .i64 b := hv
                subst hv
                have HB6 := Lib.hid (Bx.call HB5.out hr ht (by decide))
                have HX6 := Lib.hid hx6
                have z0 := HB6.out.blk.cells 0; have z1 := HB6.out.blk.cells 1; have z2 := HB6.out.blk.cells 2; have z3 := HB6.out.blk.cells 3; have z4 := HB6.out.blk.cells 4; have z5 := HB6.out.blk.cells 5; have z6 := HB6.out.blk.cells 6; have zz := HB6.out.blk.free
                clear ht hx6 hr
                dsimp only
                refine hK.out _ _ (fun _ => trivial) (fun hH => ?_); clear hHeld hK K; have hHeld := hH (by decide); clear hH
                refine wpAnyT_one (i := 9) (by kernel_rfl) rfl (fun K hK => ?_)
                go_simp
                refine hK.out _ _ (fun _ => trivial) (fun hH => ?_); clear hHeld hK K; have hHeld := hH (by decide); clear hH
                refine wpAnyT_one (i := 10) (by kernel_rfl) rfl (fun K hK => ?_)
                go_simp
                refine hK.out _ _ (fun _ => trivial) (fun hH => ?_); clear hHeld hK K; have hHeld := hH (by decide); clear hH
                refine wpAnyT_one (i := 11) (by kernel_rfl) rfl (fun K hK => ?_)
                go_simp
                refine hK.out _ _ (fun e => absurd rfl e) (fun hH => ?_); refine wpAnyT_done (by kernel_rfl) ?_ _; clear hHeld hK K hH
                have HB7 := Lib.hid (Bx.put (Bx.put HB6.out (by decide) (by decide) (by decide) 2 (.int .i64 a)) (by decide) (by decide) (by decide) 3 (.int .i64 b))
                go_wp2_with fail
                go_meet
                exact ⟨rfl, a, b, x6, Lib.hid (by rw [HX6.out]; exact HI3.out), Lib.hid (by rw [← LnR.data_len, HX6.out]; exact HLW.out), HB7⟩
          | false =>
            have q1 : ¬ (1 : Int) < (N : Int) := by have := HN2.out; rw [if_neg (by decide)] at this; split at this <;> omega
            cases b0 with
            | true =>
              have q2 : (0 : Int) < (N : Int) := by have := HN2.out; rw [if_neg (by decide), if_pos rfl] at this; omega
              have HM := Lib.hid (mark_any HBU.out.rd 114)
              rw [HC114.out] at HM
              cases hq : markQ 114 x1.rest.data with
              | none =>
                have HI3 : Hid (insQ x.data reg = none) := Lib.hid (by rw [HI2.out]; exact body_one0 HB1'.out HB0'.out hq)
                rw [hq] at HM
                clear hq
                go_wp2_with (go_at_call 100; refine HM.out.mono ?_; rintro e w5 ⟨ht, rfl⟩; have HT5 := Lib.hid ht; clear ht)
                exact ⟨rfl, HBU.out.tn.trans HT5.out, by rw [HI3.out]⟩
              | some q =>
                obtain ⟨a, W1⟩ := q
                rw [hq] at HM
                have HI3 : Hid (insQ x.data reg = numQ k ty a 0 W1) := Lib.hid (by rw [HI2.out]; exact body_one HB1'.out HB0'.out hq)
                have HLW : Hid (W1.length ≤ 20000) := Lib.hid (by have h1 := markQ_len hq; have h3 := HXR.out; omega)
                clear hq
                go_wp2_with (go_at_call 100; refine HM.out.mono ?_; rintro e w5 ⟨ht, v5, x5, rfl, hv, hx5, hr⟩; have hv : v5 = .int .i64 a := hv; subst hv; have HB5 := Lib.hid (Bx.call HBU.out hr ht (by decide)); have HX5 := Lib.hid hx5; have z0 := HB5.out.blk.cells 0; have z1 := HB5.out.blk.cells 1; have z2 := HB5.out.blk.cells 2; have z3 := HB5.out.blk.cells 3; have z4 := HB5.out.blk.cells 4; have z5 := HB5.out.blk.cells 5; have z6 := HB5.out.blk.cells 6; have zz := HB5.out.blk.free; clear ht hx5 hr; have HB6 := Lib.hid (Bx.put HB5.out (by decide) (by decide) (by decide) 2 (.int .i64 a)))
                go_meet
                exact ⟨rfl, a, 0, x5, Lib.hid (by rw [HX5.out]; exact HI3.out), Lib.hid (by rw [← LnR.data_len, HX5.out]; exact HLW.out), HB6⟩
            | false =>
              have q2 : ¬ (0 : Int) < (N : Int) := by have := HN2.out; rw [if_neg (by decide), if_neg (by decide)] at this; omega
              have HI3 : Hid (insQ x.data reg = numQ k ty 0 0 x1.rest.data) := Lib.hid (by rw [HI2.out]; exact body_no HB1'.out HB0'.out)
              go_wp2_with fail
              go_meet
              exact ⟨rfl, 0, 0, x1.rest, HI3, Lib.hid (by rw [← LnR.data_len]; exact HXR.out), HBU⟩
         case rest =>
          obtain ⟨rfl, a, b, x6, HI3, HX6, HB6⟩ := hcut
          have HMN := Lib.hid (number_any HB6.out.rd k)
          have j0 := HB6.out.blk.cells 0; have j1 := HB6.out.blk.cells 1; have j2 := HB6.out.blk.cells 2; have j3 := HB6.out.blk.cells 3; have j4 := HB6.out.blk.cells 4; have j5 := HB6.out.blk.cells 5; have j6 := HB6.out.blk.cells 6; have jz := HB6.out.blk.free
          cases hq : numberQ k x6.data with
          | none =>
            have HI4 : Hid (insQ x.data reg = none) := Lib.hid (by rw [HI3.out]; exact num_no hq)
            rw [hq] at HMN
            clear hq
            go_wp2_with (go_at_call 163; refine HMN.out.mono ?_; rintro e w7 ⟨ht, rfl⟩; have HT7 := Lib.hid ht; clear ht)
            exact ⟨rfl, HB6.out.tn.trans HT7.out, by rw [HI4.out]⟩
          | some q =>
            obtain ⟨n, W⟩ := q
            have HI4 : Hid (insQ x.data reg = argQ k ty a b n W) := Lib.hid (by rw [HI3.out]; exact num_yes hq)
            have HLW : Hid (W.length ≤ 20000) := Lib.hid (by have h1 := numberQ_len hq; have h3 := HX6.out; rw [← LnR.data_len] at h3; omega)
            rw [hq] at HMN
            clear hq
            by_cases h18 : k = 18 ∨ k = 19
            · cases hq2 : marksQ 114 W with
              | none =>
                have HI5 : Hid (insQ x.data reg = none) := Lib.hid (by rw [HI4.out, arg_marks h18, hq2]; rfl)
                have HQ2 := Lib.hid hq2
                clear hq2
                rcases h18 with h18 | h18
                · subst h18
                  go_wp2_with (first
                   | (go_at_call 163; refine HMN.out.mono ?_; rintro e w7 ⟨ht, v7, x7, rfl, hv, hx7, hr⟩; have hv : v7 = .int .i64 n := hv; subst hv; have HB7 := Lib.hid (Bx.call HB6.out hr ht (by decide)); have HX7 := Lib.hid hx7; clear ht hx7 hr; have m0 := HB7.out.blk.cells 0; have m1 := HB7.out.blk.cells 1; have m2 := HB7.out.blk.cells 2; have m3 := HB7.out.blk.cells 3; have m4 := HB7.out.blk.cells 4; have m5 := HB7.out.blk.cells 5; have m6 := HB7.out.blk.cells 6; have mz := HB7.out.blk.free; have HB8 := Lib.hid (Bx.put HB7.out (by decide) (by decide) (by decide) 4 (.int .i64 n)); have n0 := HB8.out.blk.cells 0; have n1 := HB8.out.blk.cells 1; have n2 := HB8.out.blk.cells 2; have n3 := HB8.out.blk.cells 3; have n4 := HB8.out.blk.cells 4; have n5 := HB8.out.blk.cells 5; have n6 := HB8.out.blk.cells 6; have nz := HB8.out.blk.free; have HM8 := Lib.hid (marks_any HB8.out.rd 114 (by rw [← LnR.data_len, HX7.out]; exact HLW.out)); rw [HX7.out, HQ2.out, HC114.out] at HM8)
                   | (go_at_call 101; refine HM8.out.mono ?_; rintro e w9 ⟨ht, rfl⟩; have HT9 := Lib.hid ht; clear ht))
                  exact ⟨rfl, HB8.out.tn.trans HT9.out, by rw [HI5.out]⟩
                · subst h18
                  go_wp2_with (first
                   | (go_at_call 163; refine HMN.out.mono ?_; rintro e w7 ⟨ht, v7, x7, rfl, hv, hx7, hr⟩; have hv : v7 = .int .i64 n := hv; subst hv; have HB7 := Lib.hid (Bx.call HB6.out hr ht (by decide)); have HX7 := Lib.hid hx7; clear ht hx7 hr; have m0 := HB7.out.blk.cells 0; have m1 := HB7.out.blk.cells 1; have m2 := HB7.out.blk.cells 2; have m3 := HB7.out.blk.cells 3; have m4 := HB7.out.blk.cells 4; have m5 := HB7.out.blk.cells 5; have m6 := HB7.out.blk.cells 6; have mz := HB7.out.blk.free; have HB8 := Lib.hid (Bx.put HB7.out (by decide) (by decide) (by decide) 4 (.int .i64 n)); have n0 := HB8.out.blk.cells 0; have n1 := HB8.out.blk.cells 1; have n2 := HB8.out.blk.cells 2; have n3 := HB8.out.blk.cells 3; have n4 := HB8.out.blk.cells 4; have n5 := HB8.out.blk.cells 5; have n6 := HB8.out.blk.cells 6; have nz := HB8.out.blk.free; have HM8 := Lib.hid (marks_any HB8.out.rd 114 (by rw [← LnR.data_len, HX7.out]; exact HLW.out)); rw [HX7.out, HQ2.out, HC114.out] at HM8)
                   | (go_at_call 101; refine HM8.out.mono ?_; rintro e w9 ⟨ht, rfl⟩; have HT9 := Lib.hid ht; clear ht))
                  exact ⟨rfl, HB8.out.tn.trans HT9.out, by rw [HI5.out]⟩
              | some q2 =>
                obtain ⟨ps, W2⟩ := q2
                have HI5 : Hid (insQ x.data reg = some (⟨k, ty, a, b, n, ps, []⟩, W2)) := Lib.hid (by rw [HI4.out, arg_marks h18, hq2]; rfl)
                have HQ2 := Lib.hid hq2
                clear hq2
                rcases h18 with h18 | h18
                · subst h18
                  go_wp2_with (first
                   | (go_at_call 163; refine HMN.out.mono ?_; rintro e w7 ⟨ht, v7, x7, rfl, hv, hx7, hr⟩; have hv : v7 = .int .i64 n := hv; subst hv; have HB7 := Lib.hid (Bx.call HB6.out hr ht (by decide)); have HX7 := Lib.hid hx7; clear ht hx7 hr; have m0 := HB7.out.blk.cells 0; have m1 := HB7.out.blk.cells 1; have m2 := HB7.out.blk.cells 2; have m3 := HB7.out.blk.cells 3; have m4 := HB7.out.blk.cells 4; have m5 := HB7.out.blk.cells 5; have m6 := HB7.out.blk.cells 6; have mz := HB7.out.blk.free; have HB8 := Lib.hid (Bx.put HB7.out (by decide) (by decide) (by decide) 4 (.int .i64 n)); have n0 := HB8.out.blk.cells 0; have n1 := HB8.out.blk.cells 1; have n2 := HB8.out.blk.cells 2; have n3 := HB8.out.blk.cells 3; have n4 := HB8.out.blk.cells 4; have n5 := HB8.out.blk.cells 5; have n6 := HB8.out.blk.cells 6; have nz := HB8.out.blk.free; have HM8 := Lib.hid (marks_any HB8.out.rd 114 (by rw [← LnR.data_len, HX7.out]; exact HLW.out)); rw [HX7.out, HQ2.out, HC114.out] at HM8)
                   | (go_at_call 101; refine HM8.out.mono ?_; rintro e w9 ⟨ht, v9, x9, rfl, hv, hx9, hr⟩; have hv : OwnInts _ _ v9 ps := hv; obtain ⟨A9, c9, rfl, _⟩ := hv.form; have HO9 := Lib.hid (hv.more HB8.out.tn.size); have HB9 := Lib.hid (Bx.call HB8.out hr ht (by decide)); have HX9 := Lib.hid hx9; clear ht hx9 hr hv; have p0 := HB9.out.blk.cells 0; have p1 := HB9.out.blk.cells 1; have p2 := HB9.out.blk.cells 2; have p3 := HB9.out.blk.cells 3; have p4 := HB9.out.blk.cells 4; have p5 := HB9.out.blk.cells 5; have p6 := HB9.out.blk.cells 6; have pz := HB9.out.blk.free; have HB10 := Lib.hid (Bx.put HB9.out (by decide) (by decide) (by decide) 5 (.slice A9 ps.length c9)); have HO10 := Lib.hid (OwnInts.spare HO9.out (Spare.set HB9.out.blk (.slice A9 ps.length c9) (j := 5)) (by decide))))
                  have HE := Lib.hid (Bx.seven HB10.out (by decide) (by decide) (by decide) (.int .u8 18) (.int .i64 ty) (.int .i64 a) (.int .i64 b) (.int .i64 n) (.slice A9 ps.length c9) (.slice none 0 0))
                  have HSP := Lib.hid (spare_seven HB10.out.blk (.int .u8 18) (.int .i64 ty) (.int .i64 a) (.int .i64 b) (.int .i64 n) (.slice A9 ps.length c9) (.slice none 0 0))
                  have q0 := HE.out.blk.cells 0
                  have q1 := HE.out.blk.cells 1
                  have q2 := HE.out.blk.cells 2
                  have q3 := HE.out.blk.cells 3
                  have q4 := HE.out.blk.cells 4
                  have q5 := HE.out.blk.cells 5
                  have q6 := HE.out.blk.cells 6
                  exact bodyPost_ret (v := InR.val ⟨18, ty, a, b, n, A9, c9, ps, none, 0, []⟩) (by simp [results, Tryz.results139, go_sem, InR.val, q0, q1, q2, q3, q4, q5, q6]) rfl ⟨HE.out.tn, by rw [HI5.out]; exact ⟨_, _, rfl, ⟨⟨18, ty, a, b, n, A9, c9, ps, none, 0, []⟩, rfl, rfl, ⟨by show 18 ≤ 255; omega, OwnInts.spare HO10.out HSP.out (by decide), OwnInts.nil _ _⟩⟩, HX9.out, HE.out.rd⟩⟩
                · subst h18
                  go_wp2_with (first
                   | (go_at_call 163; refine HMN.out.mono ?_; rintro e w7 ⟨ht, v7, x7, rfl, hv, hx7, hr⟩; have hv : v7 = .int .i64 n := hv; subst hv; have HB7 := Lib.hid (Bx.call HB6.out hr ht (by decide)); have HX7 := Lib.hid hx7; clear ht hx7 hr; have m0 := HB7.out.blk.cells 0; have m1 := HB7.out.blk.cells 1; have m2 := HB7.out.blk.cells 2; have m3 := HB7.out.blk.cells 3; have m4 := HB7.out.blk.cells 4; have m5 := HB7.out.blk.cells 5; have m6 := HB7.out.blk.cells 6; have mz := HB7.out.blk.free; have HB8 := Lib.hid (Bx.put HB7.out (by decide) (by decide) (by decide) 4 (.int .i64 n)); have n0 := HB8.out.blk.cells 0; have n1 := HB8.out.blk.cells 1; have n2 := HB8.out.blk.cells 2; have n3 := HB8.out.blk.cells 3; have n4 := HB8.out.blk.cells 4; have n5 := HB8.out.blk.cells 5; have n6 := HB8.out.blk.cells 6; have nz := HB8.out.blk.free; have HM8 := Lib.hid (marks_any HB8.out.rd 114 (by rw [← LnR.data_len, HX7.out]; exact HLW.out)); rw [HX7.out, HQ2.out, HC114.out] at HM8)
                   | (go_at_call 101; refine HM8.out.mono ?_; rintro e w9 ⟨ht, v9, x9, rfl, hv, hx9, hr⟩; have hv : OwnInts _ _ v9 ps := hv; obtain ⟨A9, c9, rfl, _⟩ := hv.form; have HO9 := Lib.hid (hv.more HB8.out.tn.size); have HB9 := Lib.hid (Bx.call HB8.out hr ht (by decide)); have HX9 := Lib.hid hx9; clear ht hx9 hr hv; have p0 := HB9.out.blk.cells 0; have p1 := HB9.out.blk.cells 1; have p2 := HB9.out.blk.cells 2; have p3 := HB9.out.blk.cells 3; have p4 := HB9.out.blk.cells 4; have p5 := HB9.out.blk.cells 5; have p6 := HB9.out.blk.cells 6; have pz := HB9.out.blk.free; have HB10 := Lib.hid (Bx.put HB9.out (by decide) (by decide) (by decide) 5 (.slice A9 ps.length c9)); have HO10 := Lib.hid (OwnInts.spare HO9.out (Spare.set HB9.out.blk (.slice A9 ps.length c9) (j := 5)) (by decide))))
                  have HE := Lib.hid (Bx.seven HB10.out (by decide) (by decide) (by decide) (.int .u8 19) (.int .i64 ty) (.int .i64 a) (.int .i64 b) (.int .i64 n) (.slice A9 ps.length c9) (.slice none 0 0))
                  have HSP := Lib.hid (spare_seven HB10.out.blk (.int .u8 19) (.int .i64 ty) (.int .i64 a) (.int .i64 b) (.int .i64 n) (.slice A9 ps.length c9) (.slice none 0 0))
                  have q0 := HE.out.blk.cells 0
                  have q1 := HE.out.blk.cells 1
                  have q2 := HE.out.blk.cells 2
                  have q3 := HE.out.blk.cells 3
                  have q4 := HE.out.blk.cells 4
                  have q5 := HE.out.blk.cells 5
                  have q6 := HE.out.blk.cells 6
                  exact bodyPost_ret (v := InR.val ⟨19, ty, a, b, n, A9, c9, ps, none, 0, []⟩) (by simp [results, Tryz.results139, go_sem, InR.val, q0, q1, q2, q3, q4, q5, q6]) rfl ⟨HE.out.tn, by rw [HI5.out]; exact ⟨_, _, rfl, ⟨⟨19, ty, a, b, n, A9, c9, ps, none, 0, []⟩, rfl, rfl, ⟨by show 19 ≤ 255; omega, OwnInts.spare HO10.out HSP.out (by decide), OwnInts.nil _ _⟩⟩, HX9.out, HE.out.rd⟩⟩
            · have n18 : ((k : Int) == 18) = false := beq_eq_false_iff_ne.2 (by omega)
              have n19 : ((k : Int) == 19) = false := beq_eq_false_iff_ne.2 (by omega)
              have m18 : ¬ (k : Int) = 18 := by omega
              have m19 : ¬ (k : Int) = 19 := by omega
              by_cases h22k : k = 22
              · subst h22k
                clear n18 n19
                go_wp2_with (go_at_call 163; refine HMN.out.mono ?_; rintro e w7 ⟨ht, v7, x7, rfl, hv, hx7, hr⟩; have hv : v7 = .int .i64 n := hv; subst hv; have HB7 := Lib.hid (Bx.call HB6.out hr ht (by decide)); have HX7 := Lib.hid hx7; clear ht hx7 hr; have m0 := HB7.out.blk.cells 0; have m1 := HB7.out.blk.cells 1; have m2 := HB7.out.blk.cells 2; have m3 := HB7.out.blk.cells 3; have m4 := HB7.out.blk.cells 4; have m5 := HB7.out.blk.cells 5; have m6 := HB7.out.blk.cells 6; have mz := HB7.out.blk.free; have HB8 := Lib.hid (Bx.put HB7.out (by decide) (by decide) (by decide) 4 (.int .i64 n)); have n0 := HB8.out.blk.cells 0; have n1 := HB8.out.blk.cells 1; have n2 := HB8.out.blk.cells 2; have n3 := HB8.out.blk.cells 3; have n4 := HB8.out.blk.cells 4; have n5 := HB8.out.blk.cells 5; have n6 := HB8.out.blk.cells 6; have nz := HB8.out.blk.free)
                go_loopw [] (fun wr => ∃ (fs ms : List Int) (Af Aa : Option Addr) (cf ca : Nat) (x' : LnR), Bx w wr g l x' tv fv w.heap.size 74 #[.int .u8 22, .int .i64 ty, .int .i64 a, .int .i64 b, .int .i64 n, .slice Aa ms.length ca, .slice Af fs.length cf] ∧ OwnInts wr w.heap.size (.slice Af fs.length cf) fs ∧ OwnInts wr w.heap.size (.slice Aa ms.length ca) ms ∧ Apart (.slice Aa ms.length ca) (.slice Af fs.length cf) ∧ PhiTo W fs ms x'.data ∧ fs.length + x'.xs.length ≤ 20000 ∧ ms.length + x'.xs.length ≤ 20000) (fun wr => lenOf ((wr.cell? ⟨g, 1, none⟩).getD undef))
                case atStart => exact ⟨[], [], none, none, 0, 0, x7, HB8.out, OwnInts.nil _ _, OwnInts.nil _ _, Apart.nil _, by rw [HX7.out]; exact PhiTo.start _, by rw [← LnR.data_len, HX7.out]; have := HLW.out; simpa using this, by rw [← LnR.data_len, HX7.out]; have := HLW.out; simpa using this⟩
                case round =>
                 obtain ⟨fs, ms, Af, Aa, cf, ca, x', hbx, hof, hoa, hap, hphi, hl1, hl2⟩ := hrel
                 have HBX := Lib.hid hbx
                 have HOF := Lib.hid hof
                 have HOA := Lib.hid hoa
                 have HAP := Lib.hid hap
                 have HPH := Lib.hid hphi
                 have HL1 := Lib.hid hl1
                 have HL2 := Lib.hid hl2
                 have hxl := hbx.rd.words.at_.hdr.cle
                 have hm0 : lenOf ((wr.cell? ⟨g, 1, none⟩).getD undef) = x'.xs.length := by rw [hbx.rd.blk.cells 1]; rfl
                 have HM0 := Lib.hid hm0
                 clear hbx hof hoa hap hl1 hl2 hm0
                 have y0 := HBX.out.blk.cells 0; have y1 := HBX.out.blk.cells 1; have y2 := HBX.out.blk.cells 2; have y3 := HBX.out.blk.cells 3; have y4 := HBX.out.blk.cells 4; have y5 := HBX.out.blk.cells 5; have y6 := HBX.out.blk.cells 6; have yz := HBX.out.blk.free
                 cases hd : x'.data with
                 | nil =>
                   have h0 : x'.xs.length = 0 := by rw [← LnR.data_len, hd]; rfl
                   have c1 : wr.cell? ⟨g, 1, none⟩ = some (.slice x'.a 0 x'.c) := (HBX.out.rd.blk.cells 1).trans (by rw [h0]; rfl)
                   rw [hd] at hphi
                   have HI5 : Hid (insQ x.data reg = some (⟨22, ty, a, b, n, ms, fs⟩, [])) := Lib.hid (by rw [HI4.out, arg_phi h18 rfl, hphi.done]; rfl)
                   have HD := Lib.hid hd
                   clear hphi h0 hd h18
                   go_wp2_with fail
                   have HE := Lib.hid (Bx.seven HBX.out (by decide) (by decide) (by decide) (.int .u8 22) (.int .i64 ty) (.int .i64 a) (.int .i64 b) (.int .i64 n) (.slice Aa ms.length ca) (.slice Af fs.length cf))
                   have HSP := Lib.hid (spare_seven HBX.out.blk (.int .u8 22) (.int .i64 ty) (.int .i64 a) (.int .i64 b) (.int .i64 n) (.slice Aa ms.length ca) (.slice Af fs.length cf))
                   have q0 := HE.out.blk.cells 0
                   have q1 := HE.out.blk.cells 1
                   have q2 := HE.out.blk.cells 2
                   have q3 := HE.out.blk.cells 3
                   have q4 := HE.out.blk.cells 4
                   have q5 := HE.out.blk.cells 5
                   have q6 := HE.out.blk.cells 6
                   exact bodyPost_ret (v := InR.val ⟨22, ty, a, b, n, Aa, ca, ms, Af, cf, fs⟩) (by simp [results, Tryz.results139, go_sem, InR.val, q0, q1, q2, q3, q4, q5, q6]) rfl ⟨HE.out.tn, by rw [HI5.out]; exact ⟨_, _, rfl, ⟨⟨22, ty, a, b, n, Aa, ca, ms, Af, cf, fs⟩, rfl, rfl, ⟨by show 22 ≤ 255; omega, OwnInts.spare HOA.out HSP.out (by decide), OwnInts.spare HOF.out HSP.out (by decide)⟩⟩, HD.out, HE.out.rd⟩⟩
                 | cons bb t =>
                   have h0 : 0 < x'.xs.length := by rw [← LnR.data_len, hd]; exact Nat.succ_pos _
                   have z1 : (0 : Int) < x'.xs.length := by omega
                   have c1 : wr.cell? ⟨g, 1, none⟩ = some (.slice x'.a x'.xs.length x'.c) := HBX.out.rd.blk.cells 1
                   have HBd := Lib.hid (HBX.out.on ((Below.refl _ _).drew))
                   have HMA := Lib.hid (mark_any HBd.out.rd 98)
                   have HC98 := Lib.hid (show ((98 : UInt8).toNat : Int) = 98 from rfl)
                   have HLX : Hid (t.length + 1 = x'.xs.length) := Lib.hid (by rw [← LnR.data_len, hd]; rfl)
                   rw [hd, HC98.out] at HMA
                   rw [hd] at hphi
                   clear h0 hd
                   cases hm : markP bb 98 with
                   | none =>
                     have HI5 : Hid (insQ x.data reg = none) := Lib.hid (by rw [HI4.out, arg_phi h18 rfl, hphi.stop1 hm]; rfl)
                     have hq : markQ 98 (bb :: t) = none := by show (markP bb 98).map _ = _; rw [hm]; rfl
                     rw [hq] at HMA
                     clear hm hphi hq h18
                     go_wp2_with fail
                     refine wp_region_T (fun w' => w'.cell? ⟨w.heap.size, 6, none⟩ = some (.slice Af fs.length cf)) 9 (by kernel_rfl) y6 (fun hHeld => ?_)
                     refine wpAnyT_take (i := 0) (by kernel_rfl) (by decide) rfl (by kernel_rfl) (by kernel_rfl) (by kernel_rfl) (fun _ _ _ h => h) (Or.inl ⟨by rfl, by (intro w hSw; (try dsimp only at hSw); go_simp; (try with_reducible rfl))⟩) (by assumption) ?_; (try simp only [Act.put, List.setIfInBounds_toArray, List.set_cons_zero, List.set_cons_succ])
                     refine wpAnyT_take (i := 1) (by kernel_rfl) (by decide) rfl (by kernel_rfl) (by kernel_rfl) (by kernel_rfl) (fun _ _ _ h => h) (Or.inl ⟨by rfl, by (intro w hSw; (try dsimp only at hSw); go_simp; (try with_reducible rfl))⟩) (by assumption) ?_; (try simp only [Act.put, List.setIfInBounds_toArray, List.set_cons_zero, List.set_cons_succ])
                     refine wpAnyT_take (i := 2) (by kernel_rfl) (by decide) rfl (by kernel_rfl) (by kernel_rfl) (by kernel_rfl) (fun _ _ _ h => h) (Or.inl ⟨by rfl, by (intro w hSw; (try dsimp only at hSw); go_simp; (try with_reducible rfl))⟩) (by assumption) ?_; (try simp only [Act.put, List.setIfInBounds_toArray, List.set_cons_zero, List.set_cons_succ])
                     refine wpAnyT_take (i := 3) (by kernel_rfl) (by decide) rfl (by kernel_rfl) (by kernel_rfl) (by kernel_rfl) (fun _ _ _ h => h) (Or.inl ⟨by rfl, by (intro w hSw; (try dsimp only at hSw); go_simp; (try with_reducible rfl))⟩) (by assumption) ?_; (try simp only [Act.put, List.setIfInBounds_toArray, List.set_cons_zero, List.set_cons_succ])
                     refine wpAnyT_take (i := 4) (by kernel_rfl) (by decide) rfl (by kernel_rfl) (by kernel_rfl) (by kernel_rfl) (fun _ _ _ h => h) (Or.inl ⟨by rfl, by (intro w hSw; (try dsimp only at hSw); go_simp; (try with_reducible rfl))⟩) (by assumption) ?_; (try simp only [Act.put, List.setIfInBounds_toArray, List.set_cons_zero, List.set_cons_succ])
                     refine wpAnyT_one (i := 5) (by kernel_rfl) rfl (fun K hK => ?_)
                     go_simp
                     refine HMA.out.mono ?_
                     rintro e w2 ⟨ht, rfl⟩
                     exact ⟨rfl, HBd.out.tn.trans ht, by rw [HI5.out]⟩
                   | some f1 =>
                     have hq : markQ 98 (bb :: t) = some (f1, t) := by show (markP bb 98).map _ = _; rw [hm]; rfl
                     rw [hq] at HMA
                     clear hq
                     go_wp2_with fail
                     refine wp_region_T (fun w' => w'.cell? ⟨w.heap.size, 6, none⟩ = some (.slice Af fs.length cf)) 9 (by kernel_rfl) y6 (fun hHeld => ?_)
                     refine wpAnyT_take (i := 0) (by kernel_rfl) (by decide) rfl (by kernel_rfl) (by kernel_rfl) (by kernel_rfl) (fun _ _ _ h => h) (Or.inl ⟨by rfl, by (intro w hSw; (try dsimp only at hSw); go_simp; (try with_reducible rfl))⟩) (by assumption) ?_; (try simp only [Act.put, List.setIfInBounds_toArray, List.set_cons_zero, List.set_cons_succ])
                     refine wpAnyT_take (i := 1) (by kernel_rfl) (by decide) rfl (by kernel_rfl) (by kernel_rfl) (by kernel_rfl) (fun _ _ _ h => h) (Or.inl ⟨by rfl, by (intro w hSw; (try dsimp only at hSw); go_simp; (try with_reducible rfl))⟩) (by assumption) ?_; (try simp only [Act.put, List.setIfInBounds_toArray, List.set_cons_zero, List.set_cons_succ])
                     refine wpAnyT_take (i := 2) (by kernel_rfl) (by decide) rfl (by kernel_rfl) (by kernel_rfl) (by kernel_rfl) (fun _ _ _ h => h) (Or.inl ⟨by rfl, by (intro w hSw; (try dsimp only at hSw); go_simp; (try with_reducible rfl))⟩) (by assumption) ?_; (try simp only [Act.put, List.setIfInBounds_toArray, List.set_cons_zero, List.set_cons_succ])
                     refine wpAnyT_take (i := 3) (by kernel_rfl) (by decide) rfl (by kernel_rfl) (by kernel_rfl) (by kernel_rfl) (fun _ _ _ h => h) (Or.inl ⟨by rfl, by (intro w hSw; (try dsimp only at hSw); go_simp; (try with_reducible rfl))⟩) (by assumption) ?_; (try simp only [Act.put, List.setIfInBounds_toArray, List.set_cons_zero, List.set_cons_succ])
                     refine wpAnyT_take (i := 4) (by kernel_rfl) (by decide) rfl (by kernel_rfl) (by kernel_rfl) (by kernel_rfl) (fun _ _ _ h => h) (Or.inl ⟨by rfl, by (intro w hSw; (try dsimp only at hSw); go_simp; (try with_reducible rfl))⟩) (by assumption) ?_; (try simp only [Act.put, List.setIfInBounds_toArray, List.set_cons_zero, List.set_cons_succ])
                     refine wpAnyT_one (i := 5) (by kernel_rfl) rfl (fun K hK => ?_)
                     go_simp
                     refine HMA.out.mono ?_
                     rintro e w2 ⟨ht, v2, x2, rfl, hv, hx2, hr⟩
                     have hv : v2 = .int .i64 f1 := hv
                     subst hv
                     have HX2 := Lib.hid hx2
                     have HB2 := Lib.hid (Bx.call HBd.out hr ht (by decide))
                     have hsp := ht.spare HBd.out.rd.blk
                     have hof2 : OwnInts w2 w.heap.size (.slice Af fs.length cf) fs := OwnInts.spare (HOF.out.keep ((Below.refl _ _).drew)) hsp (by decide)
                     have hoa2 : OwnInts w2 w.heap.size (.slice Aa ms.length ca) ms := OwnInts.spare (HOA.out.keep ((Below.refl _ _).drew)) hsp (by decide)
                     have i6 : w2.cell? ⟨w.heap.size, 6, none⟩ = some (.slice Af fs.length cf) := HB2.out.blk.cells 6
                     clear ht hr hx2 hsp
                     try dsimp only
                     refine hK.out _ _ (fun _ => i6) (fun hH => ?_); clear hHeld hK K; have hHeld := hH (by decide); clear hH
                     refine wpAnyT_one (i := 6) (by kernel_rfl) rfl (fun K hK => ?_)
                     go_simp
                     have HB3 := Lib.hid (HB2.out.on (w' := w2.alloc (.cells #[.int .i64 f1] 3)) ((Below.refl _ _).alloc (Nat.le_refl _) _))
                     have HOF3 := Lib.hid (hof2.keep (w' := w2.alloc (.cells #[.int .i64 f1] 3)) ((Below.refl _ _).alloc (Nat.le_refl _) _))
                     have HOA3 := Lib.hid (hoa2.keep (w' := w2.alloc (.cells #[.int .i64 f1] 3)) ((Below.refl _ _).alloc (Nat.le_refl _) _))
                     have i6' : (w2.alloc (.cells #[.int .i64 f1] 3)).cell? ⟨w.heap.size, 6, none⟩ = some (.slice Af fs.length cf) := HB3.out.blk.cells 6
                     clear hof2 hoa2
                     refine hK.out _ _ (fun _ => i6') (fun hH => ?_); clear hHeld hK K; have hHeld := hH (by decide); clear hH
                     refine wpAnyT_one (i := 7) (by kernel_rfl) rfl (fun K hK => ?_)
                     refine step_app1 rfl (.tmp 123) (.tmp 128) rfl w.heap.size _ fs (by rfl) f1 HOF3.out w2.heap.size (by rfl) (Blk.new w2 _ _) (by have := HL1.out; omega) HB3.out.tn.size ?_
                     rintro v4 w4 hof4 hg4 hat4
                     obtain ⟨fs2, hfs2⟩ : ∃ fs2, fs ++ [f1] = fs2 := ⟨_, rfl⟩
                     rw [hfs2] at hof4
                     have HFS := Lib.hid hfs2
                     clear hfs2
                     obtain ⟨A4, c4, rfl, _⟩ := hof4.form
                     have HB4 := Lib.hid (HB3.out.grown HOF3.out hg4 (Nat.le_refl _) (by decide) (by decide) (by decide) (by decide))
                     have HOA4 := Lib.hid (HAP.out.kept HOA3.out hg4)
                     have HAP4 := Lib.hid (HAP.out.grown HOA3.out hat4)
                     have HOF4 := Lib.hid hof4
                     have i6'' : w4.cell? ⟨w.heap.size, 6, none⟩ = some (.slice Af fs.length cf) := HB4.out.blk.cells 6
                     clear hof4 hg4 hat4
                     try dsimp only
                     refine hK.out _ _ (fun _ => i6'') (fun hH => ?_); clear hHeld hK K; have hHeld := hH (by decide); clear hH
                     refine wpAnyT_one (i := 8) (by kernel_rfl) rfl (fun K hK => ?_)
                     go_simp
                     refine hK.out _ _ (fun _ => i6'') (fun hH => ?_); clear hHeld hK K; have hHeld := hH (by decide); clear hH
                     refine wpAnyT_one (i := 9) (by kernel_rfl) rfl (fun K hK => ?_)
                     have j6 := HB4.out.blk.free 6
                     go_simp
                     refine hK.out _ _ (fun e => absurd rfl e) (fun hH => ?_); refine wpAnyT_done (by kernel_rfl) ?_ _; clear hHeld hK K hH
                     have HB5 := Lib.hid (Bx.put HB4.out (by decide) (by decide) (by decide) 6 (.slice A4 fs2.length c4))
                     have HOF5 := Lib.hid (OwnInts.spare HOF4.out (Spare.set (j := 6) HB4.out.blk (.slice A4 fs2.length c4)) (by decide))
                     have HOA5 := Lib.hid (OwnInts.spare HOA4.out (Spare.set (j := 6) HB4.out.blk (.slice A4 fs2.length c4)) (by decide))
                     have HBe := Lib.hid (HB5.out.on ((Below.refl _ _).drew))
                     have HMB := Lib.hid (mark_any HBe.out.rd 114)
                     rw [HX2.out, HC114.out] at HMB
                     have i5 : (w4.setCell ⟨w.heap.size, 6, none⟩ (.slice A4 fs2.length c4)).cell? ⟨w.heap.size, 5, none⟩ = some (.slice Aa ms.length ca) := HB5.out.blk.cells 5
                     go_wp2_with fail
                     cases t with
                     | nil =>
                       have HI5 : Hid (insQ x.data reg = none) := Lib.hid (by rw [HI4.out, arg_phi h18 rfl, hphi.stop0]; rfl)
                       clear hphi hm h18
                       refine wp_region_T (fun w' => w'.cell? ⟨w.heap.size, 5, none⟩ = some (.slice Aa ms.length ca)) 9 (by kernel_rfl) i5 (fun hHeld => ?_)
                       refine wpAnyT_take (i := 0) (by kernel_rfl) (by decide) rfl (by kernel_rfl) (by kernel_rfl) (by kernel_rfl) (fun _ _ _ h => h) (Or.inl ⟨by rfl, by (intro w hSw; (try dsimp only at hSw); go_simp; (try with_reducible rfl))⟩) (by assumption) ?_; (try simp only [Act.put, List.setIfInBounds_toArray, List.set_cons_zero, List.set_cons_succ])
                       refine wpAnyT_take (i := 1) (by kernel_rfl) (by decide) rfl (by kernel_rfl) (by kernel_rfl) (by kernel_rfl) (fun _ _ _ h => h) (Or.inl ⟨by rfl, by (intro w hSw; (try dsimp only at hSw); go_simp; (try with_reducible rfl))⟩) (by assumption) ?_; (try simp only [Act.put, List.setIfInBounds_toArray, List.set_cons_zero, List.set_cons_succ])
                       refine wpAnyT_take (i := 2) (by kernel_rfl) (by decide) rfl (by kernel_rfl) (by kernel_rfl) (by kernel_rfl) (fun _ _ _ h => h) (Or.inl ⟨by rfl, by (intro w hSw; (try dsimp only at hSw); go_simp; (try with_reducible rfl))⟩) (by assumption) ?_; (try simp only [Act.put, List.setIfInBounds_toArray, List.set_cons_zero, List.set_cons_succ])
                       refine wpAnyT_take (i := 3) (by kernel_rfl) (by decide) rfl (by kernel_rfl) (by kernel_rfl) (by kernel_rfl) (fun _ _ _ h => h) (Or.inl ⟨by rfl, by (intro w hSw; (try dsimp only at hSw); go_simp; (try with_reducible rfl))⟩) (by assumption) ?_; (try simp only [Act.put, List.setIfInBounds_toArray, List.set_cons_zero, List.set_cons_succ])
                       refine wpAnyT_take (i := 4) (by kernel_rfl) (by decide) rfl (by kernel_rfl) (by kernel_rfl) (by kernel_rfl) (fun _ _ _ h => h) (Or.inl ⟨by rfl, by (intro w hSw; (try dsimp only at hSw); go_simp; (try with_reducible rfl))⟩) (by assumption) ?_; (try simp only [Act.put, List.setIfInBounds_toArray, List.set_cons_zero, List.set_cons_succ])
                       refine wpAnyT_one (i := 5) (by kernel_rfl) rfl (fun K hK => ?_)
                       go_simp
                       refine HMB.out.mono ?_
                       rintro e w7 ⟨ht, rfl⟩
                       exact ⟨rfl, HBe.out.tn.trans ht, by rw [HI5.out]⟩
                     | cons rr t2 =>
                       cases hm2 : markP rr 114 with
                       | none =>
                         have HI5 : Hid (insQ x.data reg = none) := Lib.hid (by rw [HI4.out, arg_phi h18 rfl, hphi.stop2 hm2]; rfl)
                         have hq : markQ 114 (rr :: t2) = none := by show (markP rr 114).map _ = _; rw [hm2]; rfl
                         rw [hq] at HMB
                         clear hphi hm hm2 hq h18
                         refine wp_region_T (fun w' => w'.cell? ⟨w.heap.size, 5, none⟩ = some (.slice Aa ms.length ca)) 9 (by kernel_rfl) i5 (fun hHeld => ?_)
                         refine wpAnyT_take (i := 0) (by kernel_rfl) (by decide) rfl (by kernel_rfl) (by kernel_rfl) (by kernel_rfl) (fun _ _ _ h => h) (Or.inl ⟨by rfl, by (intro w hSw; (try dsimp only at hSw); go_simp; (try with_reducible rfl))⟩) (by assumption) ?_; (try simp only [Act.put, List.setIfInBounds_toArray, List.set_cons_zero, List.set_cons_succ])
                         refine wpAnyT_take (i := 1) (by kernel_rfl) (by decide) rfl (by kernel_rfl) (by kernel_rfl) (by kernel_rfl) (fun _ _ _ h => h) (Or.inl ⟨by rfl, by (intro w hSw; (try dsimp only at hSw); go_simp; (try with_reducible rfl))⟩) (by assumption) ?_; (try simp only [Act.put, List.setIfInBounds_toArray, List.set_cons_zero, List.set_cons_succ])
                         refine wpAnyT_take (i := 2) (by kernel_rfl) (by decide) rfl (by kernel_rfl) (by kernel_rfl) (by kernel_rfl) (fun _ _ _ h => h) (Or.inl ⟨by rfl, by (intro w hSw; (try dsimp only at hSw); go_simp; (try with_reducible rfl))⟩) (by assumption) ?_; (try simp only [Act.put, List.setIfInBounds_toArray, List.set_cons_zero, List.set_cons_succ])
                         refine wpAnyT_take (i := 3) (by kernel_rfl) (by decide) rfl (by kernel_rfl) (by kernel_rfl) (by kernel_rfl) (fun _ _ _ h => h) (Or.inl ⟨by rfl, by (intro w hSw; (try dsimp only at hSw); go_simp; (try with_reducible rfl))⟩) (by assumption) ?_; (try simp only [Act.put, List.setIfInBounds_toArray, List.set_cons_zero, List.set_cons_succ])
                         refine wpAnyT_take (i := 4) (by kernel_rfl) (by decide) rfl (by kernel_rfl) (by kernel_rfl) (by kernel_rfl) (fun _ _ _ h => h) (Or.inl ⟨by rfl, by (intro w hSw; (try dsimp only at hSw); go_simp; (try with_reducible rfl))⟩) (by assumption) ?_; (try simp only [Act.put, List.setIfInBounds_toArray, List.set_cons_zero, List.set_cons_succ])
                         refine wpAnyT_one (i := 5) (by kernel_rfl) rfl (fun K hK => ?_)
                         go_simp
                         refine HMB.out.mono ?_
                         rintro e w7 ⟨ht, rfl⟩
                         exact ⟨rfl, HBe.out.tn.trans ht, by rw [HI5.out]⟩
                       | some m1 =>
                         have HPN := Lib.hid (hphi.step hm hm2)
                         have hq : markQ 114 (rr :: t2) = some (m1, t2) := by show (markP rr 114).map _ = _; rw [hm2]; rfl
                         rw [hq] at HMB
                         have HHM := Lib.hid (And.intro h18 HLX.out)
                         clear hphi hm hm2 hq h18
                         refine wp_region_T (fun w' => w'.cell? ⟨w.heap.size, 5, none⟩ = some (.slice Aa ms.length ca)) 9 (by kernel_rfl) i5 (fun hHeld => ?_)
                         refine wpAnyT_take (i := 0) (by kernel_rfl) (by decide) rfl (by kernel_rfl) (by kernel_rfl) (by kernel_rfl) (fun _ _ _ h => h) (Or.inl ⟨by rfl, by (intro w hSw; (try dsimp only at hSw); go_simp; (try with_reducible rfl))⟩) (by assumption) ?_; (try simp only [Act.put, List.setIfInBounds_toArray, List.set_cons_zero, List.set_cons_succ])
                         refine wpAnyT_take (i := 1) (by kernel_rfl) (by decide) rfl (by kernel_rfl) (by kernel_rfl) (by kernel_rfl) (fun _ _ _ h => h) (Or.inl ⟨by rfl, by (intro w hSw; (try dsimp only at hSw); go_simp; (try with_reducible rfl))⟩) (by assumption) ?_; (try simp only [Act.put, List.setIfInBounds_toArray, List.set_cons_zero, List.set_cons_succ])
                         refine wpAnyT_take (i := 2) (by kernel_rfl) (by decide) rfl (by kernel_rfl) (by kernel_rfl) (by kernel_rfl) (fun _ _ _ h => h) (Or.inl ⟨by rfl, by (intro w hSw; (try dsimp only at hSw); go_simp; (try with_reducible rfl))⟩) (by assumption) ?_; (try simp only [Act.put, List.setIfInBounds_toArray, List.set_cons_zero, List.set_cons_succ])
                         refine wpAnyT_take (i := 3) (by kernel_rfl) (by decide) rfl (by kernel_rfl) (by kernel_rfl) (by kernel_rfl) (fun _ _ _ h => h) (Or.inl ⟨by rfl, by (intro w hSw; (try dsimp only at hSw); go_simp; (try with_reducible rfl))⟩) (by assumption) ?_; (try simp only [Act.put, List.setIfInBounds_toArray, List.set_cons_zero, List.set_cons_succ])
                         refine wpAnyT_take (i := 4) (by kernel_rfl) (by decide) rfl (by kernel_rfl) (by kernel_rfl) (by kernel_rfl) (fun _ _ _ h => h) (Or.inl ⟨by rfl, by (intro w hSw; (try dsimp only at hSw); go_simp; (try with_reducible rfl))⟩) (by assumption) ?_; (try simp only [Act.put, List.setIfInBounds_toArray, List.set_cons_zero, List.set_cons_succ])
                         refine wpAnyT_one (i := 5) (by kernel_rfl) rfl (fun K hK => ?_)
                         go_simp
                         refine HMB.out.mono ?_
                         rintro e w7 ⟨ht, v7, x8, rfl, hv, hx8, hr⟩
                         have hv : v7 = .int .i64 m1 := hv
                         subst hv
                         have HX8 := Lib.hid hx8
                         have HB7' := Lib.hid (Bx.call HBe.out hr ht (by decide))
                         have hsp := ht.spare HBe.out.rd.blk
                         have hof7 : OwnInts w7 w.heap.size (.slice A4 fs2.length c4) fs2 := OwnInts.spare (HOF5.out.keep ((Below.refl _ _).drew)) hsp (by decide)
                         have hoa7 : OwnInts w7 w.heap.size (.slice Aa ms.length ca) ms := OwnInts.spare (HOA5.out.keep ((Below.refl _ _).drew)) hsp (by decide)
                         have l5 : w7.cell? ⟨w.heap.size, 5, none⟩ = some (.slice Aa ms.length ca) := HB7'.out.blk.cells 5
                         clear ht hr hx8 hsp
                         try dsimp only
                         refine hK.out _ _ (fun _ => l5) (fun hH => ?_); clear hHeld hK K; have hHeld := hH (by decide); clear hH
                         refine wpAnyT_one (i := 6) (by kernel_rfl) rfl (fun K hK => ?_)
                         go_simp
                         have HB8' := Lib.hid (HB7'.out.on (w' := w7.alloc (.cells #[.int .i64 m1] 3)) ((Below.refl _ _).alloc (Nat.le_refl _) _))
                         have HOF8 := Lib.hid (hof7.keep (w' := w7.alloc (.cells #[.int .i64 m1] 3)) ((Below.refl _ _).alloc (Nat.le_refl _) _))
                         have HOA8 := Lib.hid (hoa7.keep (w' := w7.alloc (.cells #[.int .i64 m1] 3)) ((Below.refl _ _).alloc (Nat.le_refl _) _))
                         have l5' : (w7.alloc (.cells #[.int .i64 m1] 3)).cell? ⟨w.heap.size, 5, none⟩ = some (.slice Aa ms.length ca) := HB8'.out.blk.cells 5
                         clear hof7 hoa7
                         refine hK.out _ _ (fun _ => l5') (fun hH => ?_); clear hHeld hK K; have hHeld := hH (by decide); clear hH
                         refine wpAnyT_one (i := 7) (by kernel_rfl) rfl (fun K hK => ?_)
                         refine step_app1 rfl (.tmp 132) (.tmp 137) rfl w.heap.size _ ms (by rfl) m1 HOA8.out w7.heap.size (by rfl) (Blk.new w7 _ _) (by have := HL2.out; omega) HB8'.out.tn.size ?_
                         rintro v9 w9 hoa9 hg9 hat9
                         obtain ⟨ms2, hms2⟩ : ∃ ms2, ms ++ [m1] = ms2 := ⟨_, rfl⟩
                         rw [hms2] at hoa9
                         have HMS := Lib.hid hms2
                         clear hms2
                         obtain ⟨A9, c9, rfl, _⟩ := hoa9.form
                         have HB9 := Lib.hid (HB8'.out.grown HOA8.out hg9 (Nat.le_refl _) (by decide) (by decide) (by decide) (by decide))
                         have HOF9 := Lib.hid (HAP4.out.symm.kept HOF8.out hg9)
                         have HAP9 := Lib.hid (HAP4.out.symm.grown HOF8.out hat9)
                         have HOA9 := Lib.hid hoa9
                         have l5'' : w9.cell? ⟨w.heap.size, 5, none⟩ = some (.slice Aa ms.length ca) := HB9.out.blk.cells 5
                         clear hoa9 hg9 hat9
                         try dsimp only
                         refine hK.out _ _ (fun _ => l5'') (fun hH => ?_); clear hHeld hK K; have hHeld := hH (by decide); clear hH
                         refine wpAnyT_one (i := 8) (by kernel_rfl) rfl (fun K hK => ?_)
                         go_simp
                         refine hK.out _ _ (fun _ => l5'') (fun hH => ?_); clear hHeld hK K; have hHeld := hH (by decide); clear hH
                         refine wpAnyT_one (i := 9) (by kernel_rfl) rfl (fun K hK => ?_)
                         have o5 := HB9.out.blk.free 5
                         go_simp
                         refine hK.out _ _ (fun e => absurd rfl e) (fun hH => ?_); refine wpAnyT_done (by kernel_rfl) ?_ _; clear hHeld hK K hH
                         have HB10 := Lib.hid (Bx.put HB9.out (by decide) (by decide) (by decide) 5 (.slice A9 ms2.length c9))
                         have HOF10 := Lib.hid (OwnInts.spare HOF9.out (Spare.set (j := 5) HB9.out.blk (.slice A9 ms2.length c9)) (by decide))
                         have HOA10 := Lib.hid (OwnInts.spare HOA9.out (Spare.set (j := 5) HB9.out.blk (.slice A9 ms2.length c9)) (by decide))
                         have hlx8 : x8.xs.length + 2 = x'.xs.length := by rw [← LnR.data_len, HX8.out]; have := HHM.out.2; simp only [List.length_cons] at this; omega
                         have hme : lenOf (((w9.setCell ⟨w.heap.size, 5, none⟩ (.slice A9 ms2.length c9)).cell? ⟨g, 1, none⟩).getD undef) = x8.xs.length := by rw [HB10.out.rd.blk.cells 1]; rfl
                         have HME := Lib.hid hme
                         have HLX8 := Lib.hid hlx8
                         clear hme hlx8
                         go_wp2_with fail
                         go_roundw
                         case rel => exact ⟨fs2, ms2, A4, A9, c4, c9, x8, HB10.out, HOF10.out, HOA10.out, HAP9.out.symm, by rw [HX8.out, ← HFS.out, ← HMS.out]; exact HPN.out, by rw [← HFS.out, List.length_append]; have h1 := HL1.out; have h2 := HLX8.out; simp only [List.length_cons, List.length_nil]; omega, by rw [← HMS.out, List.length_append]; have h1 := HL2.out; have h2 := HLX8.out; simp only [List.length_cons, List.length_nil]; omega⟩
                         case measure => rw [HME.out, HM0.out]; have h2 := HLX8.out; omega
              · have HI5 : Hid (insQ x.data reg = some (⟨k, ty, a, b, n, [], []⟩, W)) := Lib.hid (by rw [HI4.out]; exact arg_none h18 h22k)
                have n22 : ((k : Int) == 22) = false := beq_eq_false_iff_ne.2 (by omega)
                have m22 : ¬ (k : Int) = 22 := by omega
                clear h18 h22k
                go_wp2_with (go_at_call 163; refine HMN.out.mono ?_; rintro e w7 ⟨ht, v7, x7, rfl, hv, hx7, hr⟩; have hv : v7 = .int .i64 n := hv; subst hv; have HB7 := Lib.hid (Bx.call HB6.out hr ht (by decide)); have HX7 := Lib.hid hx7; clear ht hx7 hr; have m0 := HB7.out.blk.cells 0; have m1 := HB7.out.blk.cells 1; have m2 := HB7.out.blk.cells 2; have m3 := HB7.out.blk.cells 3; have m4 := HB7.out.blk.cells 4; have m5 := HB7.out.blk.cells 5; have m6 := HB7.out.blk.cells 6; have mz := HB7.out.blk.free; have HB8 := Lib.hid (Bx.put HB7.out (by decide) (by decide) (by decide) 4 (.int .i64 n)); have n0 := HB8.out.blk.cells 0; have n1 := HB8.out.blk.cells 1; have n2 := HB8.out.blk.cells 2; have n3 := HB8.out.blk.cells 3; have n4 := HB8.out.blk.cells 4; have n5 := HB8.out.blk.cells 5; have n6 := HB8.out.blk.cells 6; have nz := HB8.out.blk.free)
                have HE := Lib.hid (Bx.seven HB8.out (by decide) (by decide) (by decide) (.int .u8 (k : Int)) (.int .i64 ty) (.int .i64 a) (.int .i64 b) (.int .i64 n) (.slice none 0 0) (.slice none 0 0))
                have HSP := Lib.hid (spare_seven HB8.out.blk (.int .u8 (k : Int)) (.int .i64 ty) (.int .i64 a) (.int .i64 b) (.int .i64 n) (.slice none 0 0) (.slice none 0 0))
                have q0 := HE.out.blk.cells 0
                have q1 := HE.out.blk.cells 1
                have q2 := HE.out.blk.cells 2
                have q3 := HE.out.blk.cells 3
                have q4 := HE.out.blk.cells 4
                have q5 := HE.out.blk.cells 5
                have q6 := HE.out.blk.cells 6
                exact bodyPost_ret (v := InR.val ⟨k, ty, a, b, n, none, 0, [], none, 0, []⟩) (by simp [results, Tryz.results139, go_sem, InR.val, q0, q1, q2, q3, q4, q5, q6]) rfl ⟨HE.out.tn, by rw [HI5.out]; exact ⟨_, _, rfl, ⟨⟨k, ty, a, b, n, none, 0, [], none, 0, []⟩, rfl, rfl, ⟨by show k ≤ 255; omega, OwnInts.nil _ _, OwnInts.nil _ _⟩⟩, HX7.out, HE.out.rd⟩⟩
       · have HI2 : Hid (insQ x.data reg = none) := Lib.hid (by rw [HI.out, HD1.out]; exact opQ_no fun h => hb5 (by rw [hk, h5] at h; exact h.2))
         have hne : (b5 == ans) = false := by simpa using hb5
         clear h0 heq HIX hb5 h22 hk
         go_wp2_with (first
          | (go_at_call 72; refine HAN.out.mono ?_; rintro e w9 ⟨rfl, hb9⟩; have HB9 := Lib.hid (HB7.out.on hb9); clear hb9)
          | (go_at_call 60; refine (hno _).mono ?_; rintro e w10 ⟨rfl, rfl⟩))
         exact ⟨rfl, HB9.out.tn, by rw [HI2.out]⟩
end
end Go.Proofs.YtbffebcjimhapaaGreatDoor
