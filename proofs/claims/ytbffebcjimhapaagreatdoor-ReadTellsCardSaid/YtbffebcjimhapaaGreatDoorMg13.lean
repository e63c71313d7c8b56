/-
  The program's reader of lines: what its end of a line does. And what stands on it: LexScope, LexRef1, LexRun1.
-/
import Derived.Test.YtbffebcjimhapaaGreatDoorMg8
import Derived.Test.YtbffebcjimhapaaGreatDoorMg12
import Derived.Deep.RegionLaw
import Derived.WalkMore
import Derived.ScopeJumps
namespace Go.Proofs.YtbffebcjimhapaaGreatDoor
set_option linter.unusedVariables false
set_option linter.unusedSimpArgs false
open Go.ChangeShapes Go.WideShapes Go.ChangeAt Go.RowKit
def EndOf (g : Nat) (s : ByteArray) (p lo : Nat) (m : List Bs) (l : List (List Bs)) (n : Nat) (w : World) (e : Ending) (w' : World) : Prop :=
 ∃ ls' rows', e = .returned (.bool (decide (m.length ≤ 64))) ∧ Rd w' g s p (.slice none 0 0) ls' ∧ OwnLines w' lo ls' rows' ∧ rows'.map LnR.data = l ++ (if m.isEmpty then [] else [m]) ∧ rows'.length ≤ n + 1 ∧ Below lo w w'
set_option maxRecDepth 100000 in
set_option maxHeartbeats 1600000 in
theorem end_any {w : World} {g : Nat} {s : ByteArray} {p lo : Nat} {ws ls : Value} {xs : List ByteArray} {rows : List LnR} (h : Rd w g s p ws ls) (hg : lo ≤ g) (hw : OwnStrs w lo ws xs) (hl : OwnLines w lo ls rows) (hx : xs.length ≤ 100000) (hr : rows.length ≤ 100000) :
 Calls Tryz.prog 98 #[.pointer (some ⟨g, 0, none⟩)] w (EndOf g s p lo (xs.map toL) (rows.map LnR.data) rows.length w) := by
 obtain ⟨⟨ra, rc, rxs⟩, hv, hrx, hok⟩ := hw.row
 have e1 : rxs = xs := hrx
 subst e1
 have e2 : ws = .slice ra rxs.length rc := hv
 subst e2
 have HOK := Lib.hid hok
 obtain ⟨A, c, rfl, hlin⟩ := hl.full
 have HL := Lib.hid hl
 have HR := Lib.hid h
 have c66 := h.words
 have c67 := h.lines
 have f66 := h.free 66
 have f67 := h.free 67
 have hgl := h.lt
 clear hw hok hrx hv hlin h hl
 by_cases h0 : 0 < rxs.length
 · have h0z : (0 : Int) < (rxs.length : Int) := by omega
   have hemp : (rxs.map toL).isEmpty = false := by cases rxs with
    | nil => exact absurd h0 (by decide)
    | cons => rfl
   have HEMP := Lib.hid hemp
   clear h0 hemp
   go_enter Tryz.func98, Tryz.ntmps98
   go_wp2_with fail
   go_region_law
    (first
      | (refine step_appL rfl (.tmp 14) (.tmp 19) rfl lo _ rows ⟨ra, rc, rxs⟩ (by rfl) ((HL.out.keep ((Below.refl _ _).drew)).keep ((Below.refl _ _).alloc (Nat.le_refl _) _)) ((HOK.out.on ((Below.refl _ _).drew)).on ((Below.refl _ _).alloc (Nat.le_refl _) _)) _ (by rfl) (Blk.new _ _ _) (by omega) (by simp; omega) ?_
         intro v' w1 hown hgr
         have hR0 := (HR.out.on (w' := w.drew.alloc (.cells #[.slice ra rxs.length rc] 51)) (Below.heap_alloc w.drew _ g hgl))
         have hRd := hR0.on (hgr.block g hR0.lt (fun e => by
          rcases HL.out.row.2 with ⟨hv, _⟩ | ⟨q, cap, cur, hv, _, hq, _⟩
          · rw [hv] at e; cases e
          · rw [hv] at e
            have e2 : g = q := Option.some.inj e
            subst e2
            exact absurd (TBlk.type ⟨_, hq⟩ HR.out.blk) (by decide)))
         obtain ⟨A2, c2, hv2, _⟩ := hown.full
         rw [show (rows ++ [(⟨ra, rc, rxs⟩ : LnR)]).length = rows.length + 1 by simp] at hv2
         subst hv2
         have HB1 := Lib.hid (Below.grown (B := lo) (a := w) (((Below.refl _ _).drew).alloc (by show lo ≤ w.heap.size; omega) _) hgr (by rw [World.size_alloc]; show lo ≤ w.heap.size + 1; omega) (own_base HL.out.row))
         have k66 := hRd.words
         have k67 := hRd.lines
         have j66 := hRd.free 66
         have j67 := hRd.free 67
         have HRD := Lib.hid hRd
         have HOW := Lib.hid hown
         have HGR := Lib.hid hgr
         clear hRd hown hgr hR0))
   all_goals
    have HRL := Lib.hid ((HRD.out.setLines (.slice A2 (rows.length + 1) c2)).setWords (.slice none 0 0))
    have HOL := Lib.hid (((HOW.out.off (p := ⟨g, 67, none⟩) HRD.out.blk (by decide) (by decide) (.slice A2 (rows.length + 1) c2))).off (p := ⟨g, 66, none⟩) (HRD.out.setLines (.slice A2 (rows.length + 1) c2)).blk (by decide) (by decide) (.slice none 0 0))
    have HBL := Lib.hid ((HB1.out.setCell (p := ⟨g, 67, none⟩) hg (.slice A2 (rows.length + 1) c2)).setCell (p := ⟨g, 66, none⟩) hg (.slice none 0 0))
    go_wp2_with fail
    go_ret
    exact ⟨_, rows ++ [⟨ra, rc, rxs⟩], ret_bool (by rw [Bool.eq_iff_iff, decide_eq_true_eq, decide_eq_true_eq, List.length_map]; omega), HRL.out, HOL.out, by rw [HEMP.out, List.map_append]; rfl, by simp, HBL.out⟩
 · have h0z : ¬ (0 : Int) < (rxs.length : Int) := by omega
   have hnil : rxs = [] := List.eq_nil_of_length_eq_zero (by omega)
   subst hnil
   have HRL := Lib.hid (HR.out.setWords (.slice none 0 0))
   have HOL := Lib.hid (HL.out.off (p := ⟨g, 66, none⟩) HR.out.blk (by decide) (by decide) (.slice none 0 0))
   clear h0
   go_enter Tryz.func98, Tryz.ntmps98
   go_wp2_with fail
   go_ret
   exact ⟨.slice A rows.length c, rows, rfl, HRL.out, HOL.out, (List.append_nil _).symm, by omega, (Below.refl _ _).setCell hg _⟩
def Jumps (J : Nat → Act → World → Prop) (Q : Exit → Act → World → Prop) : Exit → Act → World → Prop
 | .goto l, a, w => J l a w
 | e, a, w => Q e a w
section
variable {J : Nat → Act → World → Prop} {Q : Exit → Act → World → Prop} {a : Act} {w : World}
@[go_sem] theorem Jumps_goto (l : Nat) : Jumps J Q (.goto l) a w = J l a w := rfl
@[go_sem] theorem Jumps_normal : Jumps J Q .normal a w = Q .normal a w := rfl
@[go_sem] theorem Jumps_exit (id : Nat) : Jumps J Q (.exit id) a w = Q (.exit id) a w := rfl
@[go_sem] theorem Jumps_ret : Jumps J Q .ret a w = Q .ret a w := rfl
@[go_sem] theorem Jumps_panic (ch : List PanicEntry) : Jumps J Q (.panic ch) a w = Q (.panic ch) a w := rfl
end
theorem wp_scope_three {P : Program} {a : Act} {w : World} {Q : Exit → Act → World → Prop} {c : Code} (J : Nat → Nat → Act → World → Prop) (r : Nat → Code) (hf : ∀ l, l < 3 → findLabel c l = some (r l)) (hJ : ∀ l n a w, J l n a w → l < 3)
 (first : c.wp P (Jumps (fun l a w => ∃ n, J l n a w) Q) a w)
 (pass : ∀ l n a w, J l n a w → (r l).wp P (Jumps (fun l' a' w' => ∃ n', n' < n ∧ J l' n' a' w') Q) a w) : (Code.scope c).wp P Q a w := by
 intro b k cs
 have hg : ∀ l, l < 3 → gotoIn l (.inScope c :: k) = some (.code (r l) :: .inScope c :: k) := fun l hl => by simp [gotoIn, hf l hl]
 have key : ∀ n l a w, J l n a w → ∃ e a' w', Q e a' w' ∧ Arrives P (lone (b.at a (.code (r l) :: .inScope c :: k)) cs w) b k cs e a' w' := by
  intro n
  induction n using Nat.strongRecOn with
  | _ n ih =>
    intro l a w hj
    obtain ⟨e, a₁, w₁, hq, harr⟩ := pass l n a w hj b (.inScope c :: k) cs
    cases e with
    | normal => exact ⟨.normal, a₁, w₁, hq, Steps.trans harr (.one step_inScope)⟩
    | exit id => exact ⟨.exit id, a₁, w₁, hq, fun k' hk => harr k' (by simp [exitTo, hk])⟩
    | goto l' =>
      obtain ⟨n', hlt, hj'⟩ := hq
      obtain ⟨e₂, a₂, w₂, hq₂, harr₂⟩ := ih n' hlt l' a₁ w₁ hj'
      exact ⟨e₂, a₂, w₂, hq₂, .of_steps (harr _ (hg l' (hJ _ _ _ _ hj'))) harr₂⟩
    | ret => exact ⟨_, a₁, w₁, hq, harr⟩
    | panic ch => exact ⟨_, a₁, w₁, hq, harr⟩
    | outgrown => exact ⟨_, a₁, w₁, hq, harr⟩
 obtain ⟨e, a₁, w₁, hq, harr⟩ := first b (.inScope c :: k) cs
 cases e with
 | normal => exact ⟨.normal, a₁, w₁, hq, .head step_scope (Steps.trans harr (.one step_inScope))⟩
 | exit id => exact ⟨.exit id, a₁, w₁, hq, fun k' hk => .head step_scope (harr k' (by simp [exitTo, hk]))⟩
 | goto l' =>
   obtain ⟨n, hj⟩ := hq
   obtain ⟨e₂, a₂, w₂, hq₂, harr₂⟩ := key n l' a₁ w₁ hj
   exact ⟨e₂, a₂, w₂, hq₂, .of_steps (.head step_scope (harr _ (hg l' (hJ _ _ _ _ hj)))) harr₂⟩
 | ret => exact ⟨_, a₁, w₁, hq, .of_steps (.one step_scope) harr⟩
 | panic ch => exact ⟨_, a₁, w₁, hq, .of_steps (.one step_scope) harr⟩
 | outgrown => exact ⟨_, a₁, w₁, hq, .of_steps (.one step_scope) harr⟩
def threeOf (r0 r1 r2 : Code) : Nat → Code
 | 0 => r0
 | 1 => r1
 | _ => r2
theorem wp_scope_behind {P : Program} {a : Act} {w : World} {Q : Exit → Act → World → Prop} {y z r1 r2 : Code} (J : Nat → Nat → Act → World → Prop)
 (h0 : findLabel y 0 = none) (h1 : findLabel (y.seq ((Code.label 0).seq z)) 1 = some r1) (h2 : findLabel (y.seq ((Code.label 0).seq z)) 2 = some r2) (hJ : ∀ l n a w, J l n a w → l < 3)
 (start : ∀ K : Act → World → Prop, (∀ n a w, J 0 n a w → K a w) → y.wp P (Exit.then K (fun _ _ _ => False)) a w)
 (p0 : ∀ n a w, J 0 n a w → z.wp P (Jumps (fun l' a' w' => ∃ n', n' < n ∧ J l' n' a' w') Q) a w)
 (p1 : ∀ n a w, J 1 n a w → r1.wp P (Jumps (fun l' a' w' => ∃ n', n' < n ∧ J l' n' a' w') Q) a w)
 (p2 : ∀ n a w, J 2 n a w → r2.wp P (Jumps (fun l' a' w' => ∃ n', n' < n ∧ J l' n' a' w') Q) a w) : (Code.scope (y.seq ((Code.label 0).seq z))).wp P Q a w := by
 have f0 : findLabel (y.seq ((Code.label 0).seq z)) 0 = some (Code.skip.seq z) := by simp [findLabel, h0]
 have many : ∀ {e a w} n, Jumps (fun l' a' w' => ∃ n', n' < n ∧ J l' n' a' w') Q e a w → Jumps (fun l' a' w' => ∃ n, J l' n a' w') Q e a w := by
  intro e a w n h
  cases e with
  | goto l => obtain ⟨n', _, hj⟩ := h; exact ⟨n', hj⟩
  | _ => exact h
 refine wp_scope_three J (threeOf (Code.skip.seq z) r1 r2) ?_ hJ ?_ ?_
 · intro l hl
   match l, hl with
   | 0, _ => exact f0
   | 1, _ => exact h1
   | 2, _ => exact h2
 · refine wp_seq ?_
   refine wp_mono (start (fun a w => ((Code.label 0).seq z).wp P (Jumps (fun l a w => ∃ n, J l n a w) Q) a w) fun n a w hj => wp_seq (wp_label (wp_mono (p0 n a w hj) fun e a w h => many n h))) ?_
   intro e a w h
   cases e with
   | normal => exact h
   | _ => exact h.elim
 · intro l n a w hj
   match l, hJ l n a w hj with
   | 0, _ => exact wp_seq (wp_skip (p0 n a w hj))
   | 1, _ => exact p1 n a w hj
   | 2, _ => exact p2 n a w hj
theorem len_on {n : Nat} {us : List Value} (h : us.length = n + 1) : ∃ u t, us = u :: t ∧ t.length = n := by
 match us, h with
 | u :: t, h => exact ⟨u, t, rfl, Nat.succ.inj h⟩
set_option maxRecDepth 100000 in
theorem all_104 {C : List Value → Prop} (h : ∀ u4 u5 u6 u7 u8 u9 u10 u11 u12 u13 u14 u15 u16 u17 u18 u19 u20 u21 u22 u23 u24 u25 u26 u27 u28 u29 u30 u31 u32 u33 u34 u35 u36 u37 u38 u39 u40 u41 u42 u43 u44 u45 u46 u47 u48 u49 u50 u51 u52 u53 u54 u55 u56 u57 u58 u59 u60 u61 u62 u63 u64 u65 u66 u67 u68 u69 u70 u71 u72 u73 u74 u75 u76 u77 u78 u79 u80 u81 u82 u83 u84 u85 u86 u87 u88 u89 u90 u91 u92 u93 u94 u95 u96 u97 u98 u99 u100 u101 u102 u103 u104 u105 u106 u107, C [u4, u5, u6, u7, u8, u9, u10, u11, u12, u13, u14, u15, u16, u17, u18, u19, u20, u21, u22, u23, u24, u25, u26, u27, u28, u29, u30, u31, u32, u33, u34, u35, u36, u37, u38, u39, u40, u41, u42, u43, u44, u45, u46, u47, u48, u49, u50, u51, u52, u53, u54, u55, u56, u57, u58, u59, u60, u61, u62, u63, u64, u65, u66, u67, u68, u69, u70, u71, u72, u73, u74, u75, u76, u77, u78, u79, u80, u81, u82, u83, u84, u85, u86, u87, u88, u89, u90, u91, u92, u93, u94, u95, u96, u97, u98, u99, u100, u101, u102, u103, u104, u105, u106, u107]) (us : List Value) (h3 : us.length = 104) : C us := by
 obtain ⟨u4, t4, rfl, h4⟩ := len_on h3
 obtain ⟨u5, t5, rfl, h5⟩ := len_on h4
 obtain ⟨u6, t6, rfl, h6⟩ := len_on h5
 obtain ⟨u7, t7, rfl, h7⟩ := len_on h6
 obtain ⟨u8, t8, rfl, h8⟩ := len_on h7
 obtain ⟨u9, t9, rfl, h9⟩ := len_on h8
 obtain ⟨u10, t10, rfl, h10⟩ := len_on h9
 obtain ⟨u11, t11, rfl, h11⟩ := len_on h10
 obtain ⟨u12, t12, rfl, h12⟩ := len_on h11
 obtain ⟨u13, t13, rfl, h13⟩ := len_on h12
 obtain ⟨u14, t14, rfl, h14⟩ := len_on h13
 obtain ⟨u15, t15, rfl, h15⟩ := len_on h14
 obtain ⟨u16, t16, rfl, h16⟩ := len_on h15
 obtain ⟨u17, t17, rfl, h17⟩ := len_on h16
 obtain ⟨u18, t18, rfl, h18⟩ := len_on h17
 obtain ⟨u19, t19, rfl, h19⟩ := len_on h18
 obtain ⟨u20, t20, rfl, h20⟩ := len_on h19
 obtain ⟨u21, t21, rfl, h21⟩ := len_on h20
 obtain ⟨u22, t22, rfl, h22⟩ := len_on h21
 obtain ⟨u23, t23, rfl, h23⟩ := len_on h22
 obtain ⟨u24, t24, rfl, h24⟩ := len_on h23
 obtain ⟨u25, t25, rfl, h25⟩ := len_on h24
 obtain ⟨u26, t26, rfl, h26⟩ := len_on h25
 obtain ⟨u27, t27, rfl, h27⟩ := len_on h26
 obtain ⟨u28, t28, rfl, h28⟩ := len_on h27
 obtain ⟨u29, t29, rfl, h29⟩ := len_on h28
 obtain ⟨u30, t30, rfl, h30⟩ := len_on h29
 obtain ⟨u31, t31, rfl, h31⟩ := len_on h30
 obtain ⟨u32, t32, rfl, h32⟩ := len_on h31
 obtain ⟨u33, t33, rfl, h33⟩ := len_on h32
 obtain ⟨u34, t34, rfl, h34⟩ := len_on h33
 obtain ⟨u35, t35, rfl, h35⟩ := len_on h34
 obtain ⟨u36, t36, rfl, h36⟩ := len_on h35
 obtain ⟨u37, t37, rfl, h37⟩ := len_on h36
 obtain ⟨u38, t38, rfl, h38⟩ := len_on h37
 obtain ⟨u39, t39, rfl, h39⟩ := len_on h38
 obtain ⟨u40, t40, rfl, h40⟩ := len_on h39
 obtain ⟨u41, t41, rfl, h41⟩ := len_on h40
 obtain ⟨u42, t42, rfl, h42⟩ := len_on h41
 obtain ⟨u43, t43, rfl, h43⟩ := len_on h42
 obtain ⟨u44, t44, rfl, h44⟩ := len_on h43
 obtain ⟨u45, t45, rfl, h45⟩ := len_on h44
 obtain ⟨u46, t46, rfl, h46⟩ := len_on h45
 obtain ⟨u47, t47, rfl, h47⟩ := len_on h46
 obtain ⟨u48, t48, rfl, h48⟩ := len_on h47
 obtain ⟨u49, t49, rfl, h49⟩ := len_on h48
 obtain ⟨u50, t50, rfl, h50⟩ := len_on h49
 obtain ⟨u51, t51, rfl, h51⟩ := len_on h50
 obtain ⟨u52, t52, rfl, h52⟩ := len_on h51
 obtain ⟨u53, t53, rfl, h53⟩ := len_on h52
 obtain ⟨u54, t54, rfl, h54⟩ := len_on h53
 obtain ⟨u55, t55, rfl, h55⟩ := len_on h54
 obtain ⟨u56, t56, rfl, h56⟩ := len_on h55
 obtain ⟨u57, t57, rfl, h57⟩ := len_on h56
 obtain ⟨u58, t58, rfl, h58⟩ := len_on h57
 obtain ⟨u59, t59, rfl, h59⟩ := len_on h58
 obtain ⟨u60, t60, rfl, h60⟩ := len_on h59
 obtain ⟨u61, t61, rfl, h61⟩ := len_on h60
 obtain ⟨u62, t62, rfl, h62⟩ := len_on h61
 obtain ⟨u63, t63, rfl, h63⟩ := len_on h62
 obtain ⟨u64, t64, rfl, h64⟩ := len_on h63
 obtain ⟨u65, t65, rfl, h65⟩ := len_on h64
 obtain ⟨u66, t66, rfl, h66⟩ := len_on h65
 obtain ⟨u67, t67, rfl, h67⟩ := len_on h66
 obtain ⟨u68, t68, rfl, h68⟩ := len_on h67
 obtain ⟨u69, t69, rfl, h69⟩ := len_on h68
 obtain ⟨u70, t70, rfl, h70⟩ := len_on h69
 obtain ⟨u71, t71, rfl, h71⟩ := len_on h70
 obtain ⟨u72, t72, rfl, h72⟩ := len_on h71
 obtain ⟨u73, t73, rfl, h73⟩ := len_on h72
 obtain ⟨u74, t74, rfl, h74⟩ := len_on h73
 obtain ⟨u75, t75, rfl, h75⟩ := len_on h74
 obtain ⟨u76, t76, rfl, h76⟩ := len_on h75
 obtain ⟨u77, t77, rfl, h77⟩ := len_on h76
 obtain ⟨u78, t78, rfl, h78⟩ := len_on h77
 obtain ⟨u79, t79, rfl, h79⟩ := len_on h78
 obtain ⟨u80, t80, rfl, h80⟩ := len_on h79
 obtain ⟨u81, t81, rfl, h81⟩ := len_on h80
 obtain ⟨u82, t82, rfl, h82⟩ := len_on h81
 obtain ⟨u83, t83, rfl, h83⟩ := len_on h82
 obtain ⟨u84, t84, rfl, h84⟩ := len_on h83
 obtain ⟨u85, t85, rfl, h85⟩ := len_on h84
 obtain ⟨u86, t86, rfl, h86⟩ := len_on h85
 obtain ⟨u87, t87, rfl, h87⟩ := len_on h86
 obtain ⟨u88, t88, rfl, h88⟩ := len_on h87
 obtain ⟨u89, t89, rfl, h89⟩ := len_on h88
 obtain ⟨u90, t90, rfl, h90⟩ := len_on h89
 obtain ⟨u91, t91, rfl, h91⟩ := len_on h90
 obtain ⟨u92, t92, rfl, h92⟩ := len_on h91
 obtain ⟨u93, t93, rfl, h93⟩ := len_on h92
 obtain ⟨u94, t94, rfl, h94⟩ := len_on h93
 obtain ⟨u95, t95, rfl, h95⟩ := len_on h94
 obtain ⟨u96, t96, rfl, h96⟩ := len_on h95
 obtain ⟨u97, t97, rfl, h97⟩ := len_on h96
 obtain ⟨u98, t98, rfl, h98⟩ := len_on h97
 obtain ⟨u99, t99, rfl, h99⟩ := len_on h98
 obtain ⟨u100, t100, rfl, h100⟩ := len_on h99
 obtain ⟨u101, t101, rfl, h101⟩ := len_on h100
 obtain ⟨u102, t102, rfl, h102⟩ := len_on h101
 obtain ⟨u103, t103, rfl, h103⟩ := len_on h102
 obtain ⟨u104, t104, rfl, h104⟩ := len_on h103
 obtain ⟨u105, t105, rfl, h105⟩ := len_on h104
 obtain ⟨u106, t106, rfl, h106⟩ := len_on h105
 obtain ⟨u107, t107, rfl, h107⟩ := len_on h106
 have := List.eq_nil_of_length_eq_zero h107
 subst this
 exact h u4 u5 u6 u7 u8 u9 u10 u11 u12 u13 u14 u15 u16 u17 u18 u19 u20 u21 u22 u23 u24 u25 u26 u27 u28 u29 u30 u31 u32 u33 u34 u35 u36 u37 u38 u39 u40 u41 u42 u43 u44 u45 u46 u47 u48 u49 u50 u51 u52 u53 u54 u55 u56 u57 u58 u59 u60 u61 u62 u63 u64 u65 u66 u67 u68 u69 u70 u71 u72 u73 u74 u75 u76 u77 u78 u79 u80 u81 u82 u83 u84 u85 u86 u87 u88 u89 u90 u91 u92 u93 u94 u95 u96 u97 u98 u99 u100 u101 u102 u103 u104 u105 u106 u107
theorem drop_at (s : ByteArray) {k : Nat} (h : k < s.size) : (toL s).drop k = (s[k]'h) :: (toL s).drop (k + 1) := by
 have h1 : k < (toL s).length := by rw [toL_size]; exact h
 rw [List.drop_eq_getElem_cons h1]
 have h2 := toL_at s h
 rw [List.getElem?_eq_getElem h1] at h2
 rw [Option.some.inj h2]
theorem take_on (s : ByteArray) {m k : Nat} (hm : m ≤ k) (h : k < s.size) : ((toL s).drop m).take (k + 1 - m) = ((toL s).drop m).take (k - m) ++ [s[k]'h] := by
 rw [show k + 1 - m = (k - m) + 1 by omega, List.take_add_one, List.getElem?_drop, show m + (k - m) = k by omega, toL_at s h]
 rfl
set_option maxRecDepth 100000 in
set_option maxHeartbeats 1600000 in
theorem cut_any (s : ByteArray) (x : UInt8) (hs : s.size ≤ 100000) (w : World) : Calls Tryz.prog 62 #[.string s, .int .u8 x.toNat] w (SomeStrs (cutB x (toL s)) w) := by
 go_enter Tryz.func62, Tryz.ntmps62
 go_wp2_with fail
 go_loopw [5, 6, 7] (fun v f i wr => ∃ (m k : Nat) (xs : List ByteArray), m ≤ k ∧ k ≤ s.size ∧ xs.length ≤ k ∧ f = .int .i64 m ∧ i = .int .i64 k ∧ Hid (OwnStrs wr w.heap.size v xs) ∧ Hid (cutB x (toL s) = xs.map toL ++ cutWith x (((toL s).drop m).take (k - m)) ((toL s).drop k)) ∧ Hid (Below w.heap.size w wr)) (fun _ _ i _ => s.size - (intOf i).toNat)
 case atStart => exact ⟨0, 0, [], Nat.le_refl _, Nat.zero_le _, Nat.zero_le _, rfl, rfl, Lib.hid (OwnStrs.nil _ _), Lib.hid (by simp [cutWith_nil]), Lib.hid (Below.refl _ _)⟩
 case round =>
  obtain ⟨m, k, xs, hm, hk, hl, rfl, rfl, HO, HT, HB⟩ := hrel
  by_cases hlt : k < s.size
  · have hltz : (k : Int) < (s.size : Int) := by omega
    by_cases hc : s[k]'hlt = x
    · have HT1 : Hid (cutB x (toL s) = (xs ++ [s.extract m k]).map toL ++ cutWith x (((toL s).drop (k + 1)).take (k + 1 - (k + 1))) ((toL s).drop (k + 1))) := Lib.hid (by
       have := HT.out
       rw [drop_at s hlt, hc, cutWith_at] at this
       rw [this, List.map_append, List.append_assoc, Nat.sub_self, List.take_zero]
       show _ = _ ++ ([toL (s.extract m k)] ++ _)
       rw [toL_extract s hk]
       rfl)
      go_wp2_with (at_builtin; refine wpList_appT rfl (.tmp 19) (.tmp 24) rfl w.heap.size _ xs rfl (s.extract m k) HO.out (by rfl) (by omega) HB.out.size ?_; intro v' w1 hown hg; refine pause ?_)
      have HB1 := Lib.hid (Below.grown (HB.out.alloc HB.out.size _) hg (HB.out.alloc HB.out.size _).size HO.out.base)
      have HO1 := Lib.hid hown
      clear hown hg
      refine resume ?_
      go_wp2_with fail
      go_roundw
      case rel => exact ⟨k + 1, k + 1, xs ++ [s.extract m k], Nat.le_refl _, by omega, by rw [List.length_append]; show xs.length + 1 ≤ k + 1; omega, by go_num, by go_num, HO1, HT1, HB1⟩
      case measure => simp [intOf]; omega
    · have HT1 : Hid (cutB x (toL s) = xs.map toL ++ cutWith x (((toL s).drop m).take (k + 1 - m)) ((toL s).drop (k + 1))) := Lib.hid (by
       have := HT.out
       rw [drop_at s hlt, cutWith_on hc] at this
       rw [this, take_on s hm hlt])
      have hne : (((s[k]'hlt).toNat : Int) == (x.toNat : Int)) = false := by
       rw [beq_eq_false_iff_ne]
       intro e
       exact hc (UInt8.toNat_inj.1 (by omega))
      go_wp2_with fail
      go_roundw
      case rel => exact ⟨m, k + 1, xs, by omega, by omega, by omega, rfl, by go_num, HO, HT1, HB⟩
      case measure => simp [intOf]; omega
  · obtain rfl : k = s.size := by omega
    have HT1 : Hid ((xs ++ [s.extract m s.size]).map toL = cutB x (toL s)) := Lib.hid (by
     have := HT.out
     rw [show (toL s).drop s.size = [] from List.drop_eq_nil_of_le (by rw [toL_size]; exact Nat.le_refl _), cutWith_end] at this
     rw [this, List.map_append]
     show _ ++ [toL (s.extract m s.size)] = _
     rw [toL_extract s (Nat.le_refl _)])
    go_wp2_with (at_builtin; refine wpList_appT rfl (.tmp 28) (.tmp 32) rfl w.heap.size _ xs rfl (s.extract m s.size) HO.out (by rfl) (by omega) HB.out.size ?_; intro v' w1 hown hg; refine pause ?_)
    have HB1 := Lib.hid (Below.grown (HB.out.alloc HB.out.size _) hg (HB.out.alloc HB.out.size _).size HO.out.base)
    have HO1 := Lib.hid hown
    clear hown hg
    refine resume ?_
    go_wp2_with fail
    go_ret
    exact ⟨_, _, rfl, HO1.out, HT1.out, HB1.out⟩
def LnR.Under (m : Nat) (r : LnR) : Prop := ∀ b o, 0 < r.xs.length → r.a = some ⟨b, o, none⟩ → b < m
theorem LnR.Ok.under {w : World} {r : LnR} (h : r.Ok w) : r.Under w.heap.size := by
 intro b o hn e
 obtain ⟨b', o', e', cur, ht⟩ := h.blk hn
 rw [e] at e'
 injection e' with e'
 injection e' with e' _ _
 subst e'
 exact (Array.getElem?_eq_some_iff.1 ht).1
theorem LnR.Ok.stays {w w' : World} {m : Nat} {r : LnR} (h : r.Ok w) (hu : r.Under m) (hs : w.heap.size ≤ w'.heap.size) (hk : ∀ b, b < m → TBlk w b 9 → w'.heap[b]? = w.heap[b]?) : r.Ok w' := by
 refine ⟨⟨h.at_.hdr, fun hn => ?_⟩, fun hn => ?_⟩
 · obtain ⟨b, off, e, l1, l2, hc⟩ := h.at_.strs hn
   obtain ⟨b', o', e', ht⟩ := h.blk hn
   have hb := hu b off hn e
   rw [e] at e'
   injection e' with e'
   injection e' with e' _ _
   subst e'
   exact ⟨b, off, e, l1, Nat.lt_of_lt_of_le l2 hs, fun i hi j hj => by rw [World.cell?_of_block (hk b hb ht)]; exact hc i hi j hj⟩
 · obtain ⟨b, o, e, ht⟩ := h.blk hn
   have h1 := hk b (hu b o hn e) ht
   obtain ⟨cur, ht⟩ := ht
   exact ⟨b, o, e, cur, h1.trans ht⟩
theorem OwnLines.stays {w w' : World} {lo m : Nat} {v : Value} {rows : List LnR} (h : OwnLines w lo v rows) (hu : ∀ r ∈ rows, r.Under m) (hs : w.heap.size ≤ w'.heap.size) (hk : ∀ b, (b < m ∧ TBlk w b 9 ∨ TBlk w b 51) → w'.heap[b]? = w.heap[b]?) : OwnLines w' lo v rows := by
 refine ⟨⟨h.row.1, ?_⟩, fun r hr => (h.ok r hr).stays (hu r hr) hs fun b hb ht => hk b (.inl ⟨hb, ht⟩)⟩
 rcases h.row.2 with h1 | ⟨g, cap, cur, h1, h2, h3, h4⟩
 · exact .inl h1
 · exact .inr ⟨g, cap, cur, h1, h2, (hk g (.inr ⟨cur, h3⟩)).trans h3, h4⟩
theorem OwnStrs.off {w : World} {lo : Nat} {v : Value} {xs : List ByteArray} (h : OwnStrs w lo v xs) {p : Addr} {t : TypeId} (hp : TBlk w p.block t) (h1 : t ≠ 9) (u : Value) : OwnStrs (w.setCell p u) lo v xs := by
 refine ⟨h.1, ?_⟩
 rcases h.2 with h2 | ⟨g, cap, cur, h2, h3, h4, h5⟩
 · exact .inl h2
 · refine .inr ⟨g, cap, cur, h2, h3, (Below.heap_setCell w p u g ?_).trans h4, h5⟩
   rintro rfl
   exact h1 (hp.type ⟨_, h4⟩)
set_option maxRecDepth 100000 in
theorem step_appT {w : World} {ops : Array Oper} {o : Oper} {a : Act} {K : Act → World → Prop} {Q : Exit → Act → World → Prop} {E : Prop} (hgd : o.guard = none) (s x : Operand)
 (ho : o.op = .call { callee := .builtin .append, args := #[s, x], argTypes := #[51, 51] })
 (lo : Nat) (v : Value) (xs : List ByteArray) (y : ByteArray) (hs : a.eval s = v) (hown : OwnStrs w lo v xs) (B : Nat) (hx : a.eval x = .slice (some ⟨B, 0, none⟩) 1 1)
 (hB : w.heap[B]? = some (.cells #[.string y] 9 (0, 0))) (hlen : xs.length ≤ 1000000) (hlo : lo ≤ w.heap.size)
 (h : ∀ v' w', OwnStrs w' lo v' (xs ++ [y]) → w.grownBy w' v.ownBlock → K (a.put o.dst v') w') :
 if Region.wanted o (yielded ops a.tmps) = true then Oper.wp Tryz.prog o a w K Q else E := by
 obtain ⟨i0, hi, hz0, hz1, hz2⟩ := info_parts strInfo
 refine step_append_lies (P := Tryz.prog) w hgd s x 51 ho lo 9 i0 _ 1 16 Tryz.underlying51 hi hz0 hz1 hz2 rfl (by decide) v xs.length _ hs hown ⟨B, 0, none⟩ 1 1 [.string y] hx rfl (World.news_of_block hB) ?_ (by omega) ?_ ?_ hlo _ rfl ?_
 · intro u hu
   obtain rfl := List.mem_singleton.1 hu
   rfl
 · unfold maxLen; omega
 · omega
 · intro g cap w2 h1 h2 h3 h4
   refine h _ w2 ?_ h2
   unfold OwnStrs
   rw [List.length_append, List.map_append]
   exact h1
structure St (w0 : World) (g lo m : Nat) (s : ByteArray) (p : Nat) (ws ls : Value) (xs : List ByteArray) (rows : List LnR) (w : World) : Prop where
 rd : Rd w g s p ws ls
 words : OwnStrs w m ws xs
 lines : OwnLines w lo ls rows
 under : ∀ r ∈ rows, r.Under m
 lom : lo ≤ m
 big : m ≤ w.heap.size
 glo : lo ≤ g
 xsl : xs.length ≤ p
 rowl : rows.length ≤ p
 below : Below lo w0 w
section
variable {w0 w w' : World} {g lo m : Nat} {s : ByteArray} {p : Nat} {ws ls : Value} {xs : List ByteArray} {rows : List LnR}
theorem St.on (h : St w0 g lo m s p ws ls xs rows w) (hb : Below w.heap.size w w') : St w0 g lo m s p ws ls xs rows w' :=
 ⟨h.rd.on (hb.block g h.rd.lt), h.words.keep hb, h.lines.keep hb, h.under, h.lom, Nat.le_trans h.big hb.size, h.glo, h.xsl, h.rowl, h.below.trans (hb.mono (Nat.le_trans h.lom h.big))⟩
theorem St.step (h : St w0 g lo m s p ws ls xs rows w) : St w0 g lo m s (p + 1) ws ls xs rows (w.setCell ⟨g, 1, none⟩ (.int .i64 ((p + 1 : Nat) : Int))) :=
 ⟨h.rd.setPlace (p + 1), h.words.off (p := ⟨g, 1, none⟩) h.rd.blk (by decide) _, h.lines.off (p := ⟨g, 1, none⟩) h.rd.blk (by decide) (by decide) _, h.under, h.lom, by have := h.big; simpa [World.setCell] using this, h.glo, Nat.le_succ_of_le h.xsl, Nat.le_succ_of_le h.rowl, h.below.setCell h.glo _⟩
theorem St.ended (h : St w0 g lo m s p ws ls xs rows w) {ls' : Value} {rows' : List LnR} (hr : Rd w' g s p (.slice none 0 0) ls') (ho : OwnLines w' lo ls' rows') (hl : rows'.length ≤ rows.length + 1) (hb : Below lo w w') : St w0 g lo w'.heap.size s (p + 1) (.slice none 0 0) ls' [] rows' (w'.setCell ⟨g, 1, none⟩ (.int .i64 ((p + 1 : Nat) : Int))) :=
 ⟨hr.setPlace (p + 1), OwnStrs.nil _ _, ho.off (p := ⟨g, 1, none⟩) hr.blk (by decide) (by decide) _, fun r hrr => (ho.ok r hrr).under, Nat.le_trans (Nat.le_trans h.lom h.big) hb.size, by simp [World.setCell], h.glo, Nat.zero_le _, by have := h.rowl; omega, (h.below.trans hb).setCell h.glo _⟩
theorem St.drewN (h : St w0 g lo m s p ws ls xs rows w) (n : Nat) : St w0 g lo m s p ws ls xs rows (w.drewN n) := h.on (belowDrewN (Below.refl _ _) n)
theorem St.kept (h : St w0 g lo m s p ws ls xs rows w) (hg : w.grownBy w' ws.ownBlock) : Rd w' g s p ws ls :=
 h.rd.on (hg.block g h.rd.lt fun e => by
  rcases h.words.2 with ⟨hv, _⟩ | ⟨q, cap, cur, hv, _, hq, _⟩
  · rw [hv] at e; cases e
  · rw [hv] at e
    obtain rfl : g = q := Option.some.inj e
    exact absurd (TBlk.type ⟨_, hq⟩ h.rd.blk) (by decide))
theorem St.word (h : St w0 g lo m s p ws ls xs rows w) (hxp : xs.length < p) {ws' : Value} {y : ByteArray} (ho : OwnStrs w' m ws' (xs ++ [y])) (hg : w.grownBy w' ws.ownBlock) : St w0 g lo m s p ws' ls (xs ++ [y]) rows (w'.setCell ⟨g, 66, none⟩ ws') := by
 have hne : ∀ k, ws.ownBlock = some k → m ≤ k ∧ TBlk w k 9 := by
  intro k e
  refine ⟨h.words.base k e, ?_⟩
  rcases h.words.2 with ⟨hv, _⟩ | ⟨q, cap, cur, hv, _, hq, _⟩
  · rw [hv] at e; cases e
  · rw [hv] at e
    obtain rfl : q = k := Option.some.inj e
    exact ⟨_, hq⟩
 have hrd : Rd w' g s p ws ls := h.rd.on (hg.block g h.rd.lt fun e => absurd ((hne g e.symm).2.type h.rd.blk) (by decide))
 have hln : OwnLines w' lo ls rows := h.lines.stays h.under hg.size fun b hb => by
  have hlt : b < w.heap.size := by
   rcases hb with ⟨_, cur, ht⟩ | ⟨cur, ht⟩
   · exact (Array.getElem?_eq_some_iff.1 ht).1
   · exact (Array.getElem?_eq_some_iff.1 ht).1
  refine hg.block b hlt fun e => ?_
  obtain ⟨h1, h2⟩ := hne b e.symm
  rcases hb with ⟨hb, _⟩ | hb
  · omega
  · exact absurd (h2.type hb) (by decide)
 have hbl : Below lo w w' := by
  refine Below.grown (B := lo) (a := w) (Below.refl _ _) hg (Nat.le_trans h.lom h.big) fun k e => Nat.le_trans h.lom (hne k e).1
 refine ⟨hrd.setWords ws', ho.off (p := ⟨g, 66, none⟩) hrd.blk (by decide) _, hln.off (p := ⟨g, 66, none⟩) hrd.blk (by decide) (by decide) _, h.under, h.lom, ?_, h.glo, ?_, h.rowl, (h.below.trans hbl).setCell h.glo _⟩
 · have := Nat.le_trans h.big hg.size
   simpa [World.setCell] using this
 · rw [List.length_append]
   show xs.length + 1 ≤ p
   omega
end
end Go.Proofs.YtbffebcjimhapaaGreatDoor
