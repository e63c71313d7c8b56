/-
  The walk of fescueref01.Read.
-/
import Derived.Test.YtbkgcikhiomenaaNumRef
import Derived.Test.YtbkgcikhiomenaaNumRead
import Derived.LoopTactic
namespace Go.Proofs.Ytbkgcikhiomenaa
set_option linter.unusedVariables false
set_option linter.unusedSimpArgs false
open Go.ChangeShapes Go.WideShapes Go.ChangeAt Go.RowKit Go.Lib

/-- What is to be shown of the reader behind its first tests: no digits: nothing; digits: the number, if it is written so. -/
def NoOf (s : ByteArray) (a : Nat) (n er : Int) : Prop := ¬ AllDig (from_ s a s.size) → n = 0 ∧ er = 10
def YesOf (s : ByteArray) (a : Nat) (neg : Bool) (n er : Int) : Prop := AllDig (from_ s a s.size) → (itoa (rnum neg (valD (from_ s a s.size))) = s.toList → n = rnum neg (valD (from_ s a s.size)) ∧ er = 0) ∧ (itoa (rnum neg (valD (from_ s a s.size))) ≠ s.toList → n = 0 ∧ er = 10)
theorem two_eq {n er n' er' : Int} (h : n = n' ∧ er = er') : Ending.returned (.tuple #[.int .i64 n', .int .i64 er']) = .returned (.tuple #[.int .i64 n, .int .i64 er]) := by rw [h.1, h.2]
theorem not_dig {s : ByteArray} {a j : Nat} (ha : a ≤ j) (h : j < s.size) (hc : s[j].toNat < 48 ∨ 57 < s[j].toNat) : ¬ AllDig (from_ s a s.size) := fun hd => by
  have hm : s[j] ∈ from_ s a s.size := by
    rw [from_all]
    have e : s[j] = (s.data.toList.drop a)[j - a]'(by simp; omega) := by
      rw [List.getElem_drop]
      have : a + (j - a) = j := by omega
      simp only [this]; rfl
    rw [e]; exact List.getElem_mem _
  have := hd _ hm
  unfold Dig at this
  omega
theorem rnum_false (x : Nat) : rnum false x = wrap64 (x : Int) := by unfold rnum; rw [if_neg (by decide)]
theorem rnum_true (x : Nat) : rnum true x = wrap64 (-wrap64 (x : Int)) := by unfold rnum; rw [if_pos rfl]
theorem from_nil (s : ByteArray) (a : Nat) : from_ s a a = [] := by
  unfold from_ pre
  exact List.drop_eq_nil_of_le (by rw [List.length_take]; omega)
theorem wrap_in (x : Int) : In64n (wrap64 x) := by unfold In64n wrap64; omega

theorem rread_long_false (s : ByteArray) (h1 : 1 ≤ s.size) (h2 : s.size ≤ 20) (hm : ((s[0].toNat : Int) == 45) = false) (h3 : 19 < s.size - 0) (w : World) :
    Calls Try.prog 38 #[.string s] w fun e w' => e = .returned (.tuple #[.int .i64 0, .int .i64 10]) ∧ Below w.heap.size w w' := by
  have q1 : (1 : Int) ≤ s.size := by omega
  have q2 : (s.size : Int) ≤ 20 := by omega
  have q0 : 0 < s.size := by omega
  have q3 : (19 : Int) < (s.size : Int) - 0 := by omega
  have q4 : (19 : Int) < (s.size : Int) := by omega
  go_enter Try.func38, Try.ntmps38
  go_wp2
  go_ret2
  exact ⟨rfl, Below.refl _ _⟩

set_option maxHeartbeats 1000000 in
theorem rread_false (s : ByteArray) (n er : Int) (h1 : 1 ≤ s.size) (h2 : s.size ≤ 20) (hm : ((s[0].toNat : Int) == 45) = false) (h3 : s.size - 0 ≤ 19) (hno : NoOf s 0 n er) (hyes : YesOf s 0 false n er) (w : World) :
    Calls Try.prog 38 #[.string s] w fun e w' => e = .returned (.tuple #[.int .i64 n, .int .i64 er]) ∧ Below w.heap.size w w' := by
  have q1 : (1 : Int) ≤ s.size := by omega
  have q2 : (s.size : Int) ≤ 20 := by omega
  have q0 : 0 < s.size := by omega
  have q3 : (s.size : Int) - 0 ≤ 19 := by omega
  have HN := Lib.hid hno
  have HY := Lib.hid hyes
  clear hno hyes
  go_enter Try.func38, Try.ntmps38
  go_wp2
  go_loop [5, 6] (fun x i => ∃ j : Nat, 0 ≤ j ∧ j ≤ s.size ∧ i = .int .i64 j ∧ (∃ v : Nat, x = .int .u64 v ∧ Hid (v = valD (from_ s 0 j))) ∧ Hid (AllDig (from_ s 0 j))) (fun _ i => s.size - (intOf i).toNat)
  case atStart => exact ⟨0, by omega, by omega, rfl, ⟨0, rfl, Lib.hid (by rw [from_nil]; rfl)⟩, Lib.hid (by rw [from_nil]; intro c hc; cases hc)⟩
  case round =>
    obtain ⟨j, ha, hj, rfl, ⟨v, rfl, hv⟩, hd⟩ := hrel
    by_cases hlt : j < s.size
    · have qj : (j : Int) < s.size := by omega
      have qj0 : (0 : Int) ≤ j := by omega
      by_cases hc : 48 ≤ s[j].toNat ∧ s[j].toNat ≤ 57
      · obtain ⟨d1, d2⟩ := hc
        have d1' : (48 : Int) ≤ (s[j].toNat : Int) := by omega
        have d2' : (s[j].toNat : Int) ≤ 57 := by omega
        have HS : Hid (IntKind.u64.wrap (IntKind.u64.wrap (IntKind.u64.wrap (10 * (v : Int)) + (s[j].toNat : Int)) - 48) = (valD (from_ s 0 (j + 1)) : Nat)) := by
          have := rdigit_step s 0 j ha hlt (by omega) hd.out d1 d2
          rw [← hv.out] at this
          exact this
        have hd' : Hid (AllDig (from_ s 0 (j + 1))) := Lib.hid (by rw [from_succ s 0 j ha hlt]; exact allDig_snoc.2 ⟨hd.out, d1, d2⟩)
        clear d1 d2
        go_wp2
        go_round
        case rel => exact ⟨j + 1, by omega, by omega, by go_num, ⟨_, u64_eq HS.out, Lib.hid rfl⟩, hd'⟩
        case measure => simp [intOf]; omega
      · have hc' : s[j].toNat < 48 ∨ 57 < s[j].toNat := by omega
        have H10 := Lib.hid (HN.out (not_dig ha hlt hc'))
        clear hc
        rcases hc' with hc | hc
        · have d1' : (s[j].toNat : Int) < 48 := by omega
          go_wp2
          go_ret2
          exact ⟨two_eq H10.out, Below.refl _ _⟩
        · have d1' : (57 : Int) < (s[j].toNat : Int) := by omega
          go_wp2
          go_ret2
          exact ⟨two_eq H10.out, Below.refl _ _⟩
    · have hj' : j = s.size := by omega
      have qj : (s.size : Int) ≤ (j : Int) := by omega
      have hd0 : AllDig (from_ s 0 s.size) := by rw [← hj']; exact hd.out
      have hv0 : v = valD (from_ s 0 s.size) := by rw [← hj']; exact hv.out
      have Z := HY.out hd0
      rw [← hv0] at Z
      have Z1 := Lib.hid Z.1
      have Z2 := Lib.hid Z.2
      clear Z hj' hd0 hv0 hd hv HY HN
      have HR : Hid (In64n (rnum false v)) := by show In64n _; rw [rnum_false]; exact wrap_in _
      by_cases he : itoa (rnum false v) = s.toList
      · have H10 := Lib.hid (Z1.out he)
        have hb : (itoa (rnum false v) == s.toList) = true := by rw [he]; exact beq_self_eq_true _
        have hr : rnum false v = wrap64 (v : Int) := rnum_false v
        rw [hr] at hb HR H10
        clear he hr Z1 Z2
        go_wp2_with fail
        refine (write_any _ HR.out _).mono ?_
        rintro e w1 ⟨rfl, hb1⟩
        go_wp2_with fail
        go_ret2
        exact ⟨two_eq H10.out, hb1⟩
      · have H10 := Lib.hid (Z2.out he)
        have hb : (itoa (rnum false v) == s.toList) = false := beq_eq_false_iff_ne.2 he
        have hr : rnum false v = wrap64 (v : Int) := rnum_false v
        rw [hr] at hb HR
        clear he hr Z1 Z2
        go_wp2_with fail
        refine (write_any _ HR.out _).mono ?_
        rintro e w1 ⟨rfl, hb1⟩
        go_wp2_with fail
        go_ret2
        exact ⟨two_eq H10.out, hb1⟩

set_option maxHeartbeats 1000000 in
theorem rread_true (s : ByteArray) (n er : Int) (h1 : 1 ≤ s.size) (h2 : s.size ≤ 20) (hm : ((s[0].toNat : Int) == 45) = true) (h3 : s.size - 1 ≤ 19) (hno : NoOf s 1 n er) (hyes : YesOf s 1 true n er) (w : World) :
    Calls Try.prog 38 #[.string s] w fun e w' => e = .returned (.tuple #[.int .i64 n, .int .i64 er]) ∧ Below w.heap.size w w' := by
  have q1 : (1 : Int) ≤ s.size := by omega
  have q2 : (s.size : Int) ≤ 20 := by omega
  have q0 : 0 < s.size := by omega
  have q3 : (s.size : Int) - 1 ≤ 19 := by omega
  have HN := Lib.hid hno
  have HY := Lib.hid hyes
  clear hno hyes
  go_enter Try.func38, Try.ntmps38
  go_wp2
  go_loop [5, 6] (fun x i => ∃ j : Nat, 1 ≤ j ∧ j ≤ s.size ∧ i = .int .i64 j ∧ (∃ v : Nat, x = .int .u64 v ∧ Hid (v = valD (from_ s 1 j))) ∧ Hid (AllDig (from_ s 1 j))) (fun _ i => s.size - (intOf i).toNat)
  case atStart => exact ⟨1, by omega, by omega, rfl, ⟨0, rfl, Lib.hid (by rw [from_nil]; rfl)⟩, Lib.hid (by rw [from_nil]; intro c hc; cases hc)⟩
  case round =>
    obtain ⟨j, ha, hj, rfl, ⟨v, rfl, hv⟩, hd⟩ := hrel
    by_cases hlt : j < s.size
    · have qj : (j : Int) < s.size := by omega
      have qj0 : (0 : Int) ≤ j := by omega
      by_cases hc : 48 ≤ s[j].toNat ∧ s[j].toNat ≤ 57
      · obtain ⟨d1, d2⟩ := hc
        have d1' : (48 : Int) ≤ (s[j].toNat : Int) := by omega
        have d2' : (s[j].toNat : Int) ≤ 57 := by omega
        have HS : Hid (IntKind.u64.wrap (IntKind.u64.wrap (IntKind.u64.wrap (10 * (v : Int)) + (s[j].toNat : Int)) - 48) = (valD (from_ s 1 (j + 1)) : Nat)) := by
          have := rdigit_step s 1 j ha hlt (by omega) hd.out d1 d2
          rw [← hv.out] at this
          exact this
        have hd' : Hid (AllDig (from_ s 1 (j + 1))) := Lib.hid (by rw [from_succ s 1 j ha hlt]; exact allDig_snoc.2 ⟨hd.out, d1, d2⟩)
        clear d1 d2
        go_wp2
        go_round
        case rel => exact ⟨j + 1, by omega, by omega, by go_num, ⟨_, u64_eq HS.out, Lib.hid rfl⟩, hd'⟩
        case measure => simp [intOf]; omega
      · have hc' : s[j].toNat < 48 ∨ 57 < s[j].toNat := by omega
        have H10 := Lib.hid (HN.out (not_dig ha hlt hc'))
        clear hc
        rcases hc' with hc | hc
        · have d1' : (s[j].toNat : Int) < 48 := by omega
          go_wp2
          go_ret2
          exact ⟨two_eq H10.out, Below.refl _ _⟩
        · have d1' : (57 : Int) < (s[j].toNat : Int) := by omega
          go_wp2
          go_ret2
          exact ⟨two_eq H10.out, Below.refl _ _⟩
    · have hj' : j = s.size := by omega
      have qj : (s.size : Int) ≤ (j : Int) := by omega
      have hd0 : AllDig (from_ s 1 s.size) := by rw [← hj']; exact hd.out
      have hv0 : v = valD (from_ s 1 s.size) := by rw [← hj']; exact hv.out
      have Z := HY.out hd0
      rw [← hv0] at Z
      have Z1 := Lib.hid Z.1
      have Z2 := Lib.hid Z.2
      clear Z hj' hd0 hv0 hd hv HY HN
      have HR : Hid (In64n (rnum true v)) := by show In64n _; rw [rnum_true]; exact wrap_in _
      by_cases he : itoa (rnum true v) = s.toList
      · have H10 := Lib.hid (Z1.out he)
        have hb : (itoa (rnum true v) == s.toList) = true := by rw [he]; exact beq_self_eq_true _
        have hr : rnum true v = wrap64 (-wrap64 (v : Int)) := rnum_true v
        rw [hr] at hb HR H10
        clear he hr Z1 Z2
        go_wp2_with fail
        refine (write_any _ HR.out _).mono ?_
        rintro e w1 ⟨rfl, hb1⟩
        go_wp2_with fail
        go_ret2
        exact ⟨two_eq H10.out, hb1⟩
      · have H10 := Lib.hid (Z2.out he)
        have hb : (itoa (rnum true v) == s.toList) = false := beq_eq_false_iff_ne.2 he
        have hr : rnum true v = wrap64 (-wrap64 (v : Int)) := rnum_true v
        rw [hr] at hb HR
        clear he hr Z1 Z2
        go_wp2_with fail
        refine (write_any _ HR.out _).mono ?_
        rintro e w1 ⟨rfl, hb1⟩
        go_wp2_with fail
        go_ret2
        exact ⟨two_eq H10.out, hb1⟩

/-- **fescueref01.Read.** -/
theorem rread_is (s : ByteArray) (n er : Int) (h : Told s.data.toList n er) (w : World) :
    Calls Try.prog 38 #[.string s] w fun e w' => e = .returned (.tuple #[.int .i64 n, .int .i64 er]) ∧ Below w.heap.size w w' := by
  have none_of : (∀ k, ¬ NumOf s.data.toList k) → n = 0 ∧ er = 10 := fun hn => h.unique (.inr ⟨rfl, rfl, hn⟩)
  have hl : s.data.toList.length = s.size := by simp
  have form : ∀ k, NumOf s.data.toList k → ∀ (m : Bool) (a : Nat), (m = true ∧ a = 1 ∧ s.data.toList.head? = some 45 ∨ m = false ∧ a = 0 ∧ s.data.toList.head? ≠ some 45) →
      AllDig (from_ s a s.size) ∧ s.size - a ≤ 19 ∧ 1 ≤ s.size ∧ s.size ≤ 20 ∧ k = rnum m (valD (from_ s a s.size)) := by
    intro k hk m a hm
    rw [from_all]
    rcases numOf_form hk with ⟨hc, e, hx⟩ | ⟨r, e, hc, h0, e', hx⟩
    · have hlen := canon_len hc (by omega)
      have hne : 1 ≤ s.size := by
        rcases Nat.eq_zero_or_pos s.size with h0 | h0
        · exact absurd (List.eq_nil_of_length_eq_zero (by omega)) hc.2.1
        · exact h0
      rcases hm with ⟨rfl, rfl, h5⟩ | ⟨rfl, rfl, h5⟩
      · exfalso
        have := hc.1 45 (List.mem_of_mem_head? h5)
        unfold Dig at this
        have h45 : (45 : UInt8).toNat = 45 := rfl
        omega
      · rw [List.drop_zero]
        refine ⟨hc.1, by omega, hne, by omega, ?_⟩
        rw [rnum_false, e]
        unfold wrap64; omega
    · have hlen := canon_len hc hx
      have hsz : s.size = r.length + 1 := by rw [← hl, e]; rfl
      rcases hm with ⟨rfl, rfl, h5⟩ | ⟨rfl, rfl, h5⟩
      · rw [e]
        show AllDig r ∧ _
        refine ⟨hc.1, by omega, by omega, by omega, ?_⟩
        show k = rnum true (valD r)
        rw [rnum_true, e']
        unfold wrap64; omega
      · exfalso; rw [e] at h5; exact h5 rfl
  by_cases hsz : s.size < 1 ∨ 20 < s.size
  · obtain ⟨rfl, rfl⟩ := none_of fun k hk => by
      by_cases hm : s.data.toList.head? = some 45
      · have := form k hk true 1 (.inl ⟨rfl, rfl, hm⟩); omega
      · have := form k hk false 0 (.inr ⟨rfl, rfl, hm⟩); omega
    exact rread_size s hsz w
  have h1 : 1 ≤ s.size := by omega
  have h2 : s.size ≤ 20 := by omega
  have hy : ∀ (m : Bool) (a : Nat), (m = true ∧ a = 1 ∧ s.data.toList.head? = some 45 ∨ m = false ∧ a = 0 ∧ s.data.toList.head? ≠ some 45) → YesOf s a m n er := by
    intro m a hm hd
    refine ⟨fun he => ?_, fun he => none_of fun k hk => he ?_⟩
    · rw [ByteArray.toList_eq] at he
      refine h.unique (.inl ⟨rfl, ?_, he⟩)
      cases m
      · rw [rnum_false]; exact wrap_in _
      · rw [rnum_true]; exact wrap_in _
    · rw [ByteArray.toList_eq, ← (form k hk m a hm).2.2.2.2]; exact hk.2
  by_cases hm : s.data.toList.head? = some 45
  · have hb : ((s[0].toNat : Int) == 45) = true := by
      rw [head_at h1] at hm; injection hm with hm; rw [hm]; rfl
    exact rread_true s n er h1 h2 hb (by omega) (fun hd => none_of fun k hk => hd (form k hk true 1 (.inl ⟨rfl, rfl, hm⟩)).1) (hy true 1 (.inl ⟨rfl, rfl, hm⟩)) w
  · have hb : ((s[0].toNat : Int) == 45) = false := by
      rw [beq_eq_false_iff_ne]
      intro e
      refine hm ?_
      rw [head_at h1]
      congr 1
      apply UInt8.toNat_inj.1
      show s[0].toNat = 45
      omega
    by_cases h3 : s.size - 0 ≤ 19
    · exact rread_false s n er h1 h2 hb h3 (fun hd => none_of fun k hk => hd (form k hk false 0 (.inr ⟨rfl, rfl, hm⟩)).1) (hy false 0 (.inr ⟨rfl, rfl, hm⟩)) w
    · obtain ⟨rfl, rfl⟩ := none_of fun k hk => by have := form k hk false 0 (.inr ⟨rfl, rfl, hm⟩); omega
      exact rread_long_false s h1 h2 hb (by omega) w

end Go.Proofs.Ytbkgcikhiomenaa
