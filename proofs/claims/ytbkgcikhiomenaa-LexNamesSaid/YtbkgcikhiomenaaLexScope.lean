/-
  A scope with three labels, of which the first stands behind one region; a frame of 108 slots.
-/
import Derived.Test.YtbkgcikhiomenaaLexProg3
import Derived.WalkMore
import Derived.ScopeJumps
namespace Go.Proofs.Ytbkgcikhiomenaa
set_option linter.unusedVariables false
set_option linter.unusedSimpArgs false
open Go.ChangeShapes Go.WideShapes Go.ChangeAt Go.RowKit

/-- As Q; by a goto to label l: J l. -/
def Jumps (J : Nat → Act → World → Prop) (Q : Exit → Act → World → Prop) : Exit → Act → World → Prop
  | .goto l, a, w => J l a w
  | e, a, w => Q e a w
section
variable {J : Nat → Act → World → Prop} {Q : Exit → Act → World → Prop} {a : Act} {w : World}
@[go_sem] theorem Jumps_goto (l : Nat) : Jumps J Q (.goto l) a w = J l a w := rfl
@[go_sem] theorem Jumps_normal : Jumps J Q .normal a w = Q .normal a w := rfl
@[go_sem] theorem Jumps_exit (id : Nat) : Jumps J Q (.exit id) a w = Q (.exit id) a w := rfl
@[go_sem] theorem Jumps_ret : Jumps J Q .ret a w = Q .ret a w := rfl
@[go_sem] theorem Jumps_panic (ch : List PanicEntry) : Jumps J Q (.panic ch) a w = Q (.panic ch) a w := rfl
end
/-- What holds at a jump to one of three labels; each jump lowers the measure. -/
theorem wp_scope_three {P : Program} {a : Act} {w : World} {Q : Exit → Act → World → Prop} {c : Code} (J : Nat → Nat → Act → World → Prop) (r : Nat → Code) (hf : ∀ l, l < 3 → findLabel c l = some (r l)) (hJ : ∀ l n a w, J l n a w → l < 3)
    (first : c.wp P (Jumps (fun l a w => ∃ n, J l n a w) Q) a w)
    (pass : ∀ l n a w, J l n a w → (r l).wp P (Jumps (fun l' a' w' => ∃ n', n' < n ∧ J l' n' a' w') Q) a w) : (Code.scope c).wp P Q a w := by
  intro b k cs
  have hg : ∀ l, l < 3 → gotoIn l (.inScope c :: k) = some (.code (r l) :: .inScope c :: k) := fun l hl => by simp [gotoIn, hf l hl]
  have key : ∀ n l a w, J l n a w → ∃ e a' w', Q e a' w' ∧ Arrives P (lone (b.at a (.code (r l) :: .inScope c :: k)) cs w) b k cs e a' w' := by
    intro n
    induction n using Nat.strongRecOn with
    | _ n ih =>
      intro l a w hj
      obtain ⟨e, a₁, w₁, hq, harr⟩ := pass l n a w hj b (.inScope c :: k) cs
      cases e with
      | normal => exact ⟨.normal, a₁, w₁, hq, Steps.trans harr (.one step_inScope)⟩
      | exit id => exact ⟨.exit id, a₁, w₁, hq, fun k' hk => harr k' (by simp [exitTo, hk])⟩
      | goto l' =>
        obtain ⟨n', hlt, hj'⟩ := hq
        obtain ⟨e₂, a₂, w₂, hq₂, harr₂⟩ := ih n' hlt l' a₁ w₁ hj'
        exact ⟨e₂, a₂, w₂, hq₂, .of_steps (harr _ (hg l' (hJ _ _ _ _ hj'))) harr₂⟩
      | ret => exact ⟨_, a₁, w₁, hq, harr⟩
      | panic ch => exact ⟨_, a₁, w₁, hq, harr⟩
      | outgrown => exact ⟨_, a₁, w₁, hq, harr⟩
  obtain ⟨e, a₁, w₁, hq, harr⟩ := first b (.inScope c :: k) cs
  cases e with
  | normal => exact ⟨.normal, a₁, w₁, hq, .head step_scope (Steps.trans harr (.one step_inScope))⟩
  | exit id => exact ⟨.exit id, a₁, w₁, hq, fun k' hk => .head step_scope (harr k' (by simp [exitTo, hk]))⟩
  | goto l' =>
    obtain ⟨n, hj⟩ := hq
    obtain ⟨e₂, a₂, w₂, hq₂, harr₂⟩ := key n l' a₁ w₁ hj
    exact ⟨e₂, a₂, w₂, hq₂, .of_steps (.head step_scope (harr _ (hg l' (hJ _ _ _ _ hj)))) harr₂⟩
  | ret => exact ⟨_, a₁, w₁, hq, .of_steps (.one step_scope) harr⟩
  | panic ch => exact ⟨_, a₁, w₁, hq, .of_steps (.one step_scope) harr⟩
  | outgrown => exact ⟨_, a₁, w₁, hq, .of_steps (.one step_scope) harr⟩
def threeOf (r0 r1 r2 : Code) : Nat → Code
  | 0 => r0
  | 1 => r1
  | _ => r2
/-- The first label stands behind one step; what is behind it is walked once. -/
theorem wp_scope_behind {P : Program} {a : Act} {w : World} {Q : Exit → Act → World → Prop} {y z r1 r2 : Code} (J : Nat → Nat → Act → World → Prop)
    (h0 : findLabel y 0 = none) (h1 : findLabel (y.seq ((Code.label 0).seq z)) 1 = some r1) (h2 : findLabel (y.seq ((Code.label 0).seq z)) 2 = some r2) (hJ : ∀ l n a w, J l n a w → l < 3)
    (start : ∀ K : Act → World → Prop, (∀ n a w, J 0 n a w → K a w) → y.wp P (Exit.then K (fun _ _ _ => False)) a w)
    (p0 : ∀ n a w, J 0 n a w → z.wp P (Jumps (fun l' a' w' => ∃ n', n' < n ∧ J l' n' a' w') Q) a w)
    (p1 : ∀ n a w, J 1 n a w → r1.wp P (Jumps (fun l' a' w' => ∃ n', n' < n ∧ J l' n' a' w') Q) a w)
    (p2 : ∀ n a w, J 2 n a w → r2.wp P (Jumps (fun l' a' w' => ∃ n', n' < n ∧ J l' n' a' w') Q) a w) : (Code.scope (y.seq ((Code.label 0).seq z))).wp P Q a w := by
  have f0 : findLabel (y.seq ((Code.label 0).seq z)) 0 = some (Code.skip.seq z) := by simp [findLabel, h0]
  have many : ∀ {e a w} n, Jumps (fun l' a' w' => ∃ n', n' < n ∧ J l' n' a' w') Q e a w → Jumps (fun l' a' w' => ∃ n, J l' n a' w') Q e a w := by
    intro e a w n h
    cases e with
    | goto l => obtain ⟨n', _, hj⟩ := h; exact ⟨n', hj⟩
    | _ => exact h
  refine wp_scope_three J (threeOf (Code.skip.seq z) r1 r2) ?_ hJ ?_ ?_
  · intro l hl
    match l, hl with
    | 0, _ => exact f0
    | 1, _ => exact h1
    | 2, _ => exact h2
  · refine wp_seq ?_
    refine wp_mono (start (fun a w => ((Code.label 0).seq z).wp P (Jumps (fun l a w => ∃ n, J l n a w) Q) a w) fun n a w hj => wp_seq (wp_label (wp_mono (p0 n a w hj) fun e a w h => many n h))) ?_
    intro e a w h
    cases e with
    | normal => exact h
    | _ => exact h.elim
  · intro l n a w hj
    match l, hJ l n a w hj with
    | 0, _ => exact wp_seq (wp_skip (p0 n a w hj))
    | 1, _ => exact p1 n a w hj
    | 2, _ => exact p2 n a w hj
theorem len_on {n : Nat} {us : List Value} (h : us.length = n + 1) : ∃ u t, us = u :: t ∧ t.length = n := by
  match us, h with
  | u :: t, h => exact ⟨u, t, rfl, Nat.succ.inj h⟩
set_option maxRecDepth 100000 in
theorem all_104 {C : List Value → Prop} (h : ∀ u4 u5 u6 u7 u8 u9 u10 u11 u12 u13 u14 u15 u16 u17 u18 u19 u20 u21 u22 u23 u24 u25 u26 u27 u28 u29 u30 u31 u32 u33 u34 u35 u36 u37 u38 u39 u40 u41 u42 u43 u44 u45 u46 u47 u48 u49 u50 u51 u52 u53 u54 u55 u56 u57 u58 u59 u60 u61 u62 u63 u64 u65 u66 u67 u68 u69 u70 u71 u72 u73 u74 u75 u76 u77 u78 u79 u80 u81 u82 u83 u84 u85 u86 u87 u88 u89 u90 u91 u92 u93 u94 u95 u96 u97 u98 u99 u100 u101 u102 u103 u104 u105 u106 u107, C [u4, u5, u6, u7, u8, u9, u10, u11, u12, u13, u14, u15, u16, u17, u18, u19, u20, u21, u22, u23, u24, u25, u26, u27, u28, u29, u30, u31, u32, u33, u34, u35, u36, u37, u38, u39, u40, u41, u42, u43, u44, u45, u46, u47, u48, u49, u50, u51, u52, u53, u54, u55, u56, u57, u58, u59, u60, u61, u62, u63, u64, u65, u66, u67, u68, u69, u70, u71, u72, u73, u74, u75, u76, u77, u78, u79, u80, u81, u82, u83, u84, u85, u86, u87, u88, u89, u90, u91, u92, u93, u94, u95, u96, u97, u98, u99, u100, u101, u102, u103, u104, u105, u106, u107]) (us : List Value) (h3 : us.length = 104) : C us := by
  obtain ⟨u4, t4, rfl, h4⟩ := len_on h3
  obtain ⟨u5, t5, rfl, h5⟩ := len_on h4
  obtain ⟨u6, t6, rfl, h6⟩ := len_on h5
  obtain ⟨u7, t7, rfl, h7⟩ := len_on h6
  obtain ⟨u8, t8, rfl, h8⟩ := len_on h7
  obtain ⟨u9, t9, rfl, h9⟩ := len_on h8
  obtain ⟨u10, t10, rfl, h10⟩ := len_on h9
  obtain ⟨u11, t11, rfl, h11⟩ := len_on h10
  obtain ⟨u12, t12, rfl, h12⟩ := len_on h11
  obtain ⟨u13, t13, rfl, h13⟩ := len_on h12
  obtain ⟨u14, t14, rfl, h14⟩ := len_on h13
  obtain ⟨u15, t15, rfl, h15⟩ := len_on h14
  obtain ⟨u16, t16, rfl, h16⟩ := len_on h15
  obtain ⟨u17, t17, rfl, h17⟩ := len_on h16
  obtain ⟨u18, t18, rfl, h18⟩ := len_on h17
  obtain ⟨u19, t19, rfl, h19⟩ := len_on h18
  obtain ⟨u20, t20, rfl, h20⟩ := len_on h19
  obtain ⟨u21, t21, rfl, h21⟩ := len_on h20
  obtain ⟨u22, t22, rfl, h22⟩ := len_on h21
  obtain ⟨u23, t23, rfl, h23⟩ := len_on h22
  obtain ⟨u24, t24, rfl, h24⟩ := len_on h23
  obtain ⟨u25, t25, rfl, h25⟩ := len_on h24
  obtain ⟨u26, t26, rfl, h26⟩ := len_on h25
  obtain ⟨u27, t27, rfl, h27⟩ := len_on h26
  obtain ⟨u28, t28, rfl, h28⟩ := len_on h27
  obtain ⟨u29, t29, rfl, h29⟩ := len_on h28
  obtain ⟨u30, t30, rfl, h30⟩ := len_on h29
  obtain ⟨u31, t31, rfl, h31⟩ := len_on h30
  obtain ⟨u32, t32, rfl, h32⟩ := len_on h31
  obtain ⟨u33, t33, rfl, h33⟩ := len_on h32
  obtain ⟨u34, t34, rfl, h34⟩ := len_on h33
  obtain ⟨u35, t35, rfl, h35⟩ := len_on h34
  obtain ⟨u36, t36, rfl, h36⟩ := len_on h35
  obtain ⟨u37, t37, rfl, h37⟩ := len_on h36
  obtain ⟨u38, t38, rfl, h38⟩ := len_on h37
  obtain ⟨u39, t39, rfl, h39⟩ := len_on h38
  obtain ⟨u40, t40, rfl, h40⟩ := len_on h39
  obtain ⟨u41, t41, rfl, h41⟩ := len_on h40
  obtain ⟨u42, t42, rfl, h42⟩ := len_on h41
  obtain ⟨u43, t43, rfl, h43⟩ := len_on h42
  obtain ⟨u44, t44, rfl, h44⟩ := len_on h43
  obtain ⟨u45, t45, rfl, h45⟩ := len_on h44
  obtain ⟨u46, t46, rfl, h46⟩ := len_on h45
  obtain ⟨u47, t47, rfl, h47⟩ := len_on h46
  obtain ⟨u48, t48, rfl, h48⟩ := len_on h47
  obtain ⟨u49, t49, rfl, h49⟩ := len_on h48
  obtain ⟨u50, t50, rfl, h50⟩ := len_on h49
  obtain ⟨u51, t51, rfl, h51⟩ := len_on h50
  obtain ⟨u52, t52, rfl, h52⟩ := len_on h51
  obtain ⟨u53, t53, rfl, h53⟩ := len_on h52
  obtain ⟨u54, t54, rfl, h54⟩ := len_on h53
  obtain ⟨u55, t55, rfl, h55⟩ := len_on h54
  obtain ⟨u56, t56, rfl, h56⟩ := len_on h55
  obtain ⟨u57, t57, rfl, h57⟩ := len_on h56
  obtain ⟨u58, t58, rfl, h58⟩ := len_on h57
  obtain ⟨u59, t59, rfl, h59⟩ := len_on h58
  obtain ⟨u60, t60, rfl, h60⟩ := len_on h59
  obtain ⟨u61, t61, rfl, h61⟩ := len_on h60
  obtain ⟨u62, t62, rfl, h62⟩ := len_on h61
  obtain ⟨u63, t63, rfl, h63⟩ := len_on h62
  obtain ⟨u64, t64, rfl, h64⟩ := len_on h63
  obtain ⟨u65, t65, rfl, h65⟩ := len_on h64
  obtain ⟨u66, t66, rfl, h66⟩ := len_on h65
  obtain ⟨u67, t67, rfl, h67⟩ := len_on h66
  obtain ⟨u68, t68, rfl, h68⟩ := len_on h67
  obtain ⟨u69, t69, rfl, h69⟩ := len_on h68
  obtain ⟨u70, t70, rfl, h70⟩ := len_on h69
  obtain ⟨u71, t71, rfl, h71⟩ := len_on h70
  obtain ⟨u72, t72, rfl, h72⟩ := len_on h71
  obtain ⟨u73, t73, rfl, h73⟩ := len_on h72
  obtain ⟨u74, t74, rfl, h74⟩ := len_on h73
  obtain ⟨u75, t75, rfl, h75⟩ := len_on h74
  obtain ⟨u76, t76, rfl, h76⟩ := len_on h75
  obtain ⟨u77, t77, rfl, h77⟩ := len_on h76
  obtain ⟨u78, t78, rfl, h78⟩ := len_on h77
  obtain ⟨u79, t79, rfl, h79⟩ := len_on h78
  obtain ⟨u80, t80, rfl, h80⟩ := len_on h79
  obtain ⟨u81, t81, rfl, h81⟩ := len_on h80
  obtain ⟨u82, t82, rfl, h82⟩ := len_on h81
  obtain ⟨u83, t83, rfl, h83⟩ := len_on h82
  obtain ⟨u84, t84, rfl, h84⟩ := len_on h83
  obtain ⟨u85, t85, rfl, h85⟩ := len_on h84
  obtain ⟨u86, t86, rfl, h86⟩ := len_on h85
  obtain ⟨u87, t87, rfl, h87⟩ := len_on h86
  obtain ⟨u88, t88, rfl, h88⟩ := len_on h87
  obtain ⟨u89, t89, rfl, h89⟩ := len_on h88
  obtain ⟨u90, t90, rfl, h90⟩ := len_on h89
  obtain ⟨u91, t91, rfl, h91⟩ := len_on h90
  obtain ⟨u92, t92, rfl, h92⟩ := len_on h91
  obtain ⟨u93, t93, rfl, h93⟩ := len_on h92
  obtain ⟨u94, t94, rfl, h94⟩ := len_on h93
  obtain ⟨u95, t95, rfl, h95⟩ := len_on h94
  obtain ⟨u96, t96, rfl, h96⟩ := len_on h95
  obtain ⟨u97, t97, rfl, h97⟩ := len_on h96
  obtain ⟨u98, t98, rfl, h98⟩ := len_on h97
  obtain ⟨u99, t99, rfl, h99⟩ := len_on h98
  obtain ⟨u100, t100, rfl, h100⟩ := len_on h99
  obtain ⟨u101, t101, rfl, h101⟩ := len_on h100
  obtain ⟨u102, t102, rfl, h102⟩ := len_on h101
  obtain ⟨u103, t103, rfl, h103⟩ := len_on h102
  obtain ⟨u104, t104, rfl, h104⟩ := len_on h103
  obtain ⟨u105, t105, rfl, h105⟩ := len_on h104
  obtain ⟨u106, t106, rfl, h106⟩ := len_on h105
  obtain ⟨u107, t107, rfl, h107⟩ := len_on h106
  have := List.eq_nil_of_length_eq_zero h107
  subst this
  exact h u4 u5 u6 u7 u8 u9 u10 u11 u12 u13 u14 u15 u16 u17 u18 u19 u20 u21 u22 u23 u24 u25 u26 u27 u28 u29 u30 u31 u32 u33 u34 u35 u36 u37 u38 u39 u40 u41 u42 u43 u44 u45 u46 u47 u48 u49 u50 u51 u52 u53 u54 u55 u56 u57 u58 u59 u60 u61 u62 u63 u64 u65 u66 u67 u68 u69 u70 u71 u72 u73 u74 u75 u76 u77 u78 u79 u80 u81 u82 u83 u84 u85 u86 u87 u88 u89 u90 u91 u92 u93 u94 u95 u96 u97 u98 u99 u100 u101 u102 u103 u104 u105 u106 u107
end Go.Proofs.Ytbkgcikhiomenaa
