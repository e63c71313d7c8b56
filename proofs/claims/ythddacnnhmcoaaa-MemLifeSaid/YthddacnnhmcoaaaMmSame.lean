/-
  The reference's Same of memories.
-/
import Derived.Test.YthddacnnhmcoaaaMmOwn
import Derived.Outline
import Derived.BigQuiet
import Derived.Deep.QuietTactic
import Derived.Laws.StructEq
namespace Go.Proofs.Ythddacnnhmcoaaa
set_option linter.unusedVariables false
set_option linter.unusedSimpArgs false
open Go.ChangeShapes Go.WideShapes Go.ChangeAt Go.RowKit

theorem eqVal4 (k n b t k' n' b' t' : Int) (w : World) : (Op.equalIn 10000 29 (valV k n b t) (valV k' n' b' t')).run Try.prog w = .ok (k == k' && (n == n' && (b == b' && t == t'))) w := by
  have u0 := Try.underlying5
  have u1 := Try.underlying2
  have u2 := Try.underlying3
  have hS : Try.prog.underlying 29 = some (.struct (Try.prog.fieldsOf 29)) := by kernel_rfl
  rw [show (10000 : Nat) = 9999 + 1 from rfl, run_equalIn_agg w 9999 29 _ _ hS (by kernel_rfl)]
  simp only [Program.fieldsOf, Try.underlying29]
  go_simp
  by_cases h1 : k = k' <;> by_cases h2 : n = n' <;> by_cases h3 : b = b' <;> by_cases h4 : t = t' <;> simp [h1, h2, h3, h4]
theorem vl_eq (v u : Vl) : (v.k == u.k && (v.n == u.n && (v.b == u.b && v.t == u.t))) = decide (v = u) := by
  rw [Bool.eq_iff_iff, decide_eq_true_eq]
  simp only [Bool.and_eq_true, beq_iff_eq]
  constructor
  · rintro ⟨h1, h2, h3, h4⟩
    obtain ⟨k, n, b, t⟩ := v
    obtain ⟨k', n', b', t'⟩ := u
    simp only at h1 h2 h3 h4
    subst h1 h2 h3 h4
    rfl
  · rintro rfl; exact ⟨rfl, rfl, rfl, rfl⟩
theorem eqValV (w : World) (v u : Vl) : (Op.equalIn 10000 29 (.agg #[.int .u8 v.k, .int .i64 v.n, .int .i64 v.b, .int .i64 v.t]) (.agg #[.int .u8 u.k, .int .i64 u.n, .int .i64 u.b, .int .i64 u.t])).run Try.prog w = .ok (decide (v = u)) w := by
  rw [← vl_eq]; exact eqVal4 _ _ _ _ _ _ _ _ w
theorem take_eq_succ {α : Type} {d : α} {xs ys : List α} {k : Nat} (h : xs.take k = ys.take k) (h1 : k < xs.length) (h2 : k < ys.length) (e : xs.getD k d = ys.getD k d) : xs.take (k + 1) = ys.take (k + 1) := by
  rw [take_succ_getD (d := d) h1, take_succ_getD (d := d) h2, h, e]
theorem ne_of_getD {α : Type} {d : α} {xs ys : List α} {k : Nat} (e : xs.getD k d ≠ ys.getD k d) : xs ≠ ys := fun h => e (by rw [h])
def Drawn (w w' : World) : Prop := ∃ n, w' = w.drewN n
def Quiet (b : Bool) (w : World) (e : Ending) (w' : World) : Prop := e = .returned (.bool b) ∧ Drawn w w'
theorem Quiet.of {w : World} {f : FuncId} {args : Array Value} {n : Nat} {b : Bool} (h : Calls Try.prog f args (w.drewN n) (Quiet b (w.drewN n))) : Calls Try.prog f args (w.drewN n) fun e w'' => e = .returned (.bool b) ∧ ∃ m, w'' = w.drewN m := Calls.quiet_of (h.mono fun _ _ h => h)
theorem Drawn.refl (w : World) : Drawn w w := ⟨0, rfl⟩
theorem Drawn.more {w w' : World} (h : Drawn w w') (n : Nat) : Drawn w (w'.drewN n) := by
  obtain ⟨m, rfl⟩ := h
  exact ⟨m + n, World.drewN_drewN _ _ _⟩
theorem Drawn.below {w w' : World} (h : Drawn w w') : Below w.heap.size w w' := by
  obtain ⟨m, rfl⟩ := h
  exact belowDrewN (Below.refl _ _) m
set_option maxHeartbeats 800000 in
theorem sameVals_any {w : World} {lo lo' : Nat} {A A' : Option Addr} {c c' : Nat} {xs ys : List Vl} (hh : Hdr A xs.length c) (hx : ValsAt w lo w.heap.size A xs) (hh' : Hdr A' ys.length c') (hy : ValsAt w lo' w.heap.size A' ys) :
    Calls Try.prog 42 #[.slice A xs.length c, .slice A' ys.length c'] w (Quiet (decide (xs = ys)) w) := by
  have hl := hh.le
  have hl' := hh'.le
  have HX := Lib.hid hx
  have HY := Lib.hid hy
  clear hx hy hh hh'
  by_cases hlen : xs.length = ys.length
  · have q : (xs.length : Int) = ys.length := by omega
    have hqv := eqValV
    go_enter Try.func42, Try.ntmps42
    go_wp2_with fail
    go_loopw [5] (fun i wr => ∃ k : Nat, k ≤ xs.length ∧ i = .int .i64 k ∧ Hid (xs.take k = ys.take k) ∧ Drawn w wr) (fun i _ => xs.length - (intOf i).toNat)
    case atStart => exact ⟨0, Nat.zero_le _, rfl, Lib.hid rfl, Drawn.refl _⟩
    case round =>
      obtain ⟨k, hk, rfl, HT, hdr⟩ := hrel
      have HDR := Lib.hid hdr
      have hbel := hdr.below
      clear hdr
      by_cases hlt : k < xs.length
      · obtain ⟨b, off, v, rfl, hbk, v0, v1, v2, v3, HE⟩ := (HX.out.keep hbel).elem hlt
        obtain ⟨b', off', u, rfl, hbk', u0, u1, u2, u3, HE'⟩ := (HY.out.keep hbel).elem (i := k) (by omega)
        clear hbel
        have hq0 : (0 : Int) ≤ (k : Int) := Int.natCast_nonneg _
        have hq1 : (k : Int) < (xs.length : Int) := by omega
        have hq2 : (k : Int) < (ys.length : Int) := by omega
        by_cases hxy : v = u
        · have hd : decide (v = u) = true := decide_eq_true hxy
          have HXY := Lib.hid hxy
          clear hxy
          go_wp2_with fail
          go_quiet (fail)
          go_wp2_with fail
          go_roundw
          case rel => exact ⟨k + 1, by omega, by go_num, Lib.hid (take_eq_succ (d := default) HT.out hlt (by omega) (by rw [HE.out, HE'.out]; exact HXY.out)), HDR.out.more _⟩
          case measure => simp [intOf]; omega
        · have hd : decide (v = u) = false := decide_eq_false hxy
          have HN : Hid (xs ≠ ys) := Lib.hid (ne_of_getD (d := default) (k := k) (by rw [HE.out, HE'.out]; exact hxy))
          clear hxy
          go_wp2_with fail
          go_quiet (fail)
          go_wp2_with fail
          go_ret
          exact ⟨ret_bool (by rw [decide_eq_false HN.out]), HDR.out.more _⟩
      · clear hbel
        go_wp2_with fail
        go_ret
        exact ⟨ret_bool (by rw [decide_eq_true]; have := HT.out; rwa [List.take_of_length_le (by omega), List.take_of_length_le (by omega)] at this), HDR.out⟩
  · have q : ¬ (xs.length : Int) = ys.length := by omega
    have HN : Hid (xs ≠ ys) := Lib.hid (fun h => hlen (by rw [h]))
    clear hlen
    go_enter Try.func42, Try.ntmps42
    go_wp2_with fail
    go_ret
    exact ⟨ret_bool (by rw [decide_eq_false HN.out]), Drawn.refl _⟩
theorem mmb_ne {xs ys : List BkR} {k : Nat} (h1 : k < xs.length) (h2 : k < ys.length) (h : (xs.getD k default).data ≠ (ys.getD k default).data) : mmb xs ≠ mmb ys := fun e => h (by rw [← mmb_at h1, ← mmb_at h2, e])
theorem mmb_take {xs ys : List BkR} {k : Nat} (hT : (mmb xs).take k = (mmb ys).take k) (h1 : k < xs.length) (h2 : k < ys.length) (h : (xs.getD k default).data = (ys.getD k default).data) : (mmb xs).take (k + 1) = (mmb ys).take (k + 1) :=
  take_eq_succ (d := default) hT (by rw [mmb_len]; exact h1) (by rw [mmb_len]; exact h2) (by rw [mmb_at h1, mmb_at h2, h])
set_option maxHeartbeats 3200000 in
theorem rsamem_any {w : World} {A A' : Option Addr} {c c' : Nat} {xs ys : List BkR} (h : MemIn w A c xs) (h' : MemIn w A' c' ys) :
    Calls Try.prog 17 #[.slice A xs.length c, .slice A' ys.length c'] w (Quiet (decide (mmb xs = mmb ys)) w) := by
  have hl := h.len
  have hl' := h'.len
  have HX := Lib.hid h
  have HY := Lib.hid h'
  clear h h'
  by_cases hlen : xs.length = ys.length
  · have q : (xs.length : Int) = ys.length := by omega
    go_enter Try.func17, Try.ntmps17
    go_wp2_with fail
    go_loopw [5] (fun i wr => ∃ k : Nat, k ≤ xs.length ∧ i = .int .i64 k ∧ Hid ((mmb xs).take k = (mmb ys).take k) ∧ Drawn w wr) (fun i _ => xs.length - (intOf i).toNat)
    case atStart => exact ⟨0, Nat.zero_le _, rfl, Lib.hid rfl, Drawn.refl _⟩
    case round =>
      obtain ⟨k, hk, rfl, HT, hdr⟩ := hrel
      have HDR := Lib.hid hdr
      have hbel := hdr.below
      clear hdr
      by_cases hlt : k < xs.length
      · have hlt' : k < ys.length := by omega
        obtain ⟨b, off, hA, hbl, c0, c1, c2, c3, c4⟩ := ((HX.out.on hbel).rows.elem hlt).at_
        obtain ⟨b', off', hA', hbl', c0', c1', c2', c3', c4'⟩ := ((HY.out.on hbel).rows.elem hlt').at_
        subst hA hA'
        have HR := Lib.hid ((HX.out.on hbel).row hlt)
        have HR' := Lib.hid ((HY.out.on hbel).row hlt')
        clear hbel
        have HNE : Hid ((xs.getD k default).data ≠ (ys.getD k default).data → mmb xs ≠ mmb ys) := Lib.hid (mmb_ne hlt hlt')
        have HEQ : Hid ((xs.getD k default).data = (ys.getD k default).data → (mmb xs).take (k + 1) = (mmb ys).take (k + 1)) := Lib.hid (mmb_take HT.out hlt hlt')
        have hq0 : (0 : Int) ≤ (k : Int) := Int.natCast_nonneg _
        have hq1 : (k : Int) < (xs.length : Int) := by omega
        have hq2 : (k : Int) < (ys.length : Int) := by omega
        generalize xs.getD k default = r at c0 c1 c2 c3 c4 HR HNE HEQ
        generalize ys.getD k default = r' at c0' c1' c2' c3' c4' HR' HNE HEQ
        obtain ⟨s, ty, de, al, ca, cc, vs⟩ := r
        obtain ⟨s', ty', de', al', ca', cc', vs'⟩ := r'
        simp only at c0 c1 c2 c3 c4 c0' c1' c2' c3' c4'
        by_cases e0 : s = s'
        · subst e0
          by_cases e1 : ty = ty'
          · subst e1
            by_cases e2 : de = de'
            · subst e2
              by_cases e3 : al = al'
              · subst e3
                have HC := Lib.hid (fun n => sameVals_any (w := wr.drewN n) (lo := 0) (lo' := 0) HR.out.hdr (HR.out.vals.keep (belowDrewN (Below.refl _ _) n)) HR'.out.hdr (HR'.out.vals.keep (belowDrewN (Below.refl _ _) n)))
                simp only at HC
                by_cases e4 : vs = vs'
                · rw [decide_eq_true e4] at HC
                  have HTS : Hid ((mmb xs).take (k + 1) = (mmb ys).take (k + 1)) := Lib.hid (HEQ.out (by subst e4; rfl))
                  clear e4
                  go_wp2_with fail
                  go_quiet ((go_at_call 42; exact Quiet.of (HC.out _)))
                  go_wp2_with fail
                  go_roundw
                  case rel => exact ⟨k + 1, by omega, by go_num, HTS, HDR.out.more _⟩
                  case measure => simp [intOf]; omega
                · rw [decide_eq_false e4] at HC
                  have HN : Hid (mmb xs ≠ mmb ys) := Lib.hid (HNE.out (fun h => e4 (by injection h)))
                  clear e4
                  go_wp2_with fail
                  go_quiet ((go_at_call 42; exact Quiet.of (HC.out _)))
                  go_wp2_with fail
                  go_ret
                  exact ⟨ret_bool (by rw [decide_eq_false HN.out]), HDR.out.more _⟩
              · have hne : (al == al') = false := by simpa using e3
                have hne2 : (al != al') = true := by simpa using e3
                have HN : Hid (mmb xs ≠ mmb ys) := Lib.hid (HNE.out (fun h => e3 (by injection h)))
                clear e3
                go_wp2_with fail
                go_quiet (fail)
                go_wp2_with fail
                go_ret
                exact ⟨ret_bool (by rw [decide_eq_false HN.out]), HDR.out.more _⟩
            · have hne : (de == de') = false := by simpa using e2
              have hne2 : (de != de') = true := by simpa using e2
              have HN : Hid (mmb xs ≠ mmb ys) := Lib.hid (HNE.out (fun h => e2 (by injection h)))
              clear e2
              go_wp2_with fail
              go_quiet (fail)
              go_wp2_with fail
              go_ret
              exact ⟨ret_bool (by rw [decide_eq_false HN.out]), HDR.out.more _⟩
          · have hne : (ty == ty') = false := by simpa using e1
            have hne2 : (ty != ty') = true := by simpa using e1
            have HN : Hid (mmb xs ≠ mmb ys) := Lib.hid (HNE.out (fun h => e1 (by injection h)))
            clear e1
            go_wp2_with fail
            go_quiet (fail)
            go_wp2_with fail
            go_ret
            exact ⟨ret_bool (by rw [decide_eq_false HN.out]), HDR.out.more _⟩
        · have hne : (s == s') = false := by simpa using e0
          have hne2 : (s != s') = true := by simpa using e0
          have HN : Hid (mmb xs ≠ mmb ys) := Lib.hid (HNE.out (fun h => e0 (by injection h)))
          clear e0
          go_wp2_with fail
          go_quiet (fail)
          go_wp2_with fail
          go_ret
          exact ⟨ret_bool (by rw [decide_eq_false HN.out]), HDR.out.more _⟩
      · clear hbel
        go_wp2_with fail
        go_ret
        exact ⟨ret_bool (by rw [decide_eq_true]; have := HT.out; rwa [List.take_of_length_le (by rw [mmb_len]; omega), List.take_of_length_le (by rw [mmb_len]; omega)] at this), HDR.out⟩
  · have q : ¬ (xs.length : Int) = ys.length := by omega
    have HN : Hid (mmb xs ≠ mmb ys) := Lib.hid (fun h => hlen (by have := congrArg List.length h; rwa [mmb_len, mmb_len] at this))
    clear hlen
    go_enter Try.func17, Try.ntmps17
    go_wp2_with fail
    go_ret
    exact ⟨ret_bool (by rw [decide_eq_false HN.out]), Drawn.refl _⟩
end Go.Proofs.Ythddacnnhmcoaaa
