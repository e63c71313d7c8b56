/-
  num.Read: what it answers is what is told of the text: the number whose numeral it is, or that there is none.
-/
import Derived.Test.YtbkgcikhiomenaaNumRead2
import Derived.Test.YtbkgcikhiomenaaNumRead4
import Derived.Test.YtbkgcikhiomenaaNumRead5
namespace Go.Proofs.Ytbkgcikhiomenaa
set_option linter.unusedVariables false
set_option linter.unusedSimpArgs false
open Go.ChangeShapes Go.WideShapes Go.ChangeAt Go.RowKit Go.Lib

theorem told_ex (l : List UInt8) : ∃ n e, Told l n e := by
  by_cases h : ∃ n, NumOf l n
  · obtain ⟨n, hn⟩ := h; exact ⟨n, 0, .inl ⟨rfl, hn⟩⟩
  · exact ⟨0, 10, .inr ⟨rfl, rfl, fun m hm => h ⟨m, hm⟩⟩⟩

theorem signed_list {s r : ByteArray} {m : Bool} (h : Signed s m r) : (m = true ∧ s.data.toList = 45 :: r.data.toList) ∨ (m = false ∧ s.data.toList.head? ≠ some 45 ∧ r.data.toList = s.data.toList) := by
  rcases h with ⟨rfl, h1, h2, rfl⟩ | ⟨rfl, h2, rfl⟩
  · refine .inl ⟨rfl, ?_⟩
    rw [extract_to_end]
    generalize s.data.toList = l at *
    cases l with
    | nil => cases h2
    | cons a l => simp at h2; subst h2; rfl
  · exact .inr ⟨rfl, h2, rfl⟩
theorem signed_num {s r : ByteArray} {m : Bool} (h : Signed s m r) {k : Int} (hk : NumOf s.data.toList k) :
    Canon r.data.toList ∧ ((m = false ∧ valD r.data.toList ≤ 9223372036854775807) ∨ (m = true ∧ r.data.toList ≠ [48] ∧ valD r.data.toList ≤ 9223372036854775808)) := by
  rcases signed_list h with ⟨rfl, e⟩ | ⟨rfl, h2, e⟩
  · rcases numOf_form hk with ⟨hc, _, _⟩ | ⟨r', e', hc, h0, _, hx⟩
    · have := hc.1 45 (by rw [e]; simp)
      unfold Dig at this
      have h45 : (45 : UInt8).toNat = 45 := rfl
      omega
    · rw [e] at e'
      injection e' with _ e'
      rw [e']
      exact ⟨hc, .inr ⟨rfl, h0, hx⟩⟩
  · rcases numOf_form hk with ⟨hc, _, hx⟩ | ⟨r', e', hc, h0, _, hx⟩
    · rw [e]; exact ⟨hc, .inl ⟨rfl, hx⟩⟩
    · rw [e'] at h2; exact absurd rfl h2
theorem size_len (r : ByteArray) : r.data.toList.length = r.size := by simp
theorem bad_none {s r : ByteArray} {m : Bool} (h : Signed s m r) (hb : BadRest s r) (k : Int) : ¬ NumOf s.data.toList k := fun hk => by
  obtain ⟨hc, hm⟩ := signed_num h hk
  have hl := size_len r
  have hx : valD r.data.toList ≤ 9223372036854775808 := by rcases hm with ⟨_, hx⟩ | ⟨_, _, hx⟩ <;> omega
  rcases hb with h0 | h0 | ⟨h1, h2, h3, h4⟩
  · exact hc.2.1 (List.eq_nil_of_length_eq_zero (by omega))
  · have := canon_len hc hx; omega
  · rcases hc.2.2 with h5 | h5
    · rcases signed_list h with ⟨rfl, e⟩ | ⟨rfl, _, e⟩
      · rcases hm with ⟨h6, _⟩ | ⟨_, h6, _⟩
        · cases h6
        · exact h6 h5
      · exact h4 (e.symm.trans h5)
    · exact h5 h3

theorem neg_wrap {n : Nat} (h : n ≤ 9223372036854775808) : wrap64 (-wrap64 (n : Int)) = -(n : Int) := by unfold wrap64; omega

set_option maxHeartbeats 1000000 in
theorem read_zero (s : ByteArray) (h : Signed s false s) (h1 : s.data.toList = [48]) (w : World) :
    Calls Try.prog 37 #[.string s] w fun e w' => e = .returned (.tuple #[.int .i64 0, .int .i64 0]) ∧ Below w.heap.size w w' := by
  have hmf : ∀ (fn : Fn) (first cap : Array Value) (w : World), (Instr.makeFunc fn first cap).run Try.prog w = .ok (.func fn first cap) w := fun _ _ _ _ => rfl
  have HS := Lib.hid h
  have hl := size_len s
  rw [h1] at hl
  have hs : s.size = 1 := hl.symm
  have he := isEmpty_f (r := s) (by omega)
  have q1 : (s.size : Int) ≤ 19 := by omega
  have q0 : 0 < s.size := by omega
  have q2 : ((s[0].toNat : Int) == 48) = true := by
    have h3 := head_at q0
    rw [h1] at h3
    injection h3 with h3
    rw [← h3]; rfl
  have q3 : (s.toList == [48]) = true := by rw [ByteArray.toList_eq, h1]; rfl
  have HY : Hid (∀ w, Calls Try.prog 44 #[.string s] w fun e w' => e = .returned (.tuple #[.int .u64 0, .bool true]) ∧ Below w.heap.size w w') := by
    intro w
    have := digits_yes s (by omega) (by rw [h1]; intro c hc; simp at hc; subst hc; exact ⟨by decide, by decide⟩) w
    rw [h1] at this
    exact this
  clear h h1 hl hs
  go_enter_defers Try.func37, Try.ntmps37
  go_upto_region 14 with (first | (go_at_call 24; refine (cut_is _ _ _ HS.out _).mono ?_; rintro e w' ⟨rfl, rfl⟩) | (go_at_call 44; refine (HY.out _).mono ?_; rintro e w1 ⟨rfl, hb1⟩; have B2 := ((Blk.new w 2 #[.int .i64 0]).alloc (.cells #[.int .i64 0] 23)).beneath hb1; have B3 := (Blk.new2 w (.cells #[.int .i64 0] 2) 23 #[.int .i64 0]).beneath hb1; have c2 := B2.cells; have c3 := B3.cells; have f2 := B2.free; have f3 := B3.free; have hB := Lib.hid (below_new2 hb1)))
  have D2 : Blk (w1.setCell ⟨w.heap.size, 0, none⟩ (.int .i64 0)) w.heap.size 2 #[.int .i64 0] := B2.put 0 _
  have D3 : Blk (w1.setCell ⟨w.heap.size, 0, none⟩ (.int .i64 0)) (w.heap.size + 1) 23 #[.int .i64 0] := B3.far (p := ⟨w.heap.size, 0, none⟩) (Nat.succ_ne_self _) _
  have HW : Hid (Below w.heap.size w (w1.setCell ⟨w.heap.size, 0, none⟩ (.int .i64 0))) := belowSet0 hB.out
  clear c2 c3 f2 f3 B2 B3 hB hb1
  generalize (w1.setCell ⟨w.heap.size, 0, none⟩ (.int .i64 0)) = W2 at D2 D3 HW ⊢
  have c2 := D2.cells
  have c3 := D3.cells
  have f2 := D2.free
  have f3 := D3.free
  go_region
  go_wp2
  refine leaves_cons (f := 43) (args := #[.pointer (some ⟨w.heap.size + 1, 0, none⟩), .pointer (some ⟨w.heap.size, 0, none⟩)]) (by simp) (by simp [go_sem]) ?_
  refine (late_well _ _ _ _ ?_).mono ?_
  · simp [go_sem, c3]
  rintro e u' w'' ⟨rfl, rfl, rfl⟩
  refine ⟨.tuple #[.int .i64 0, .int .i64 0], ?_, rfl, ?_⟩
  · clear q2 q3 he q1 hmf
    simp [results, Try.results37, go_sem, c2, c3]
  · first | exact Below.drew (belowSetK (belowSet0 HW.out)) | exact belowSetK (belowSet0 HW.out)

theorem itoa_zero : itoa 0 = [48] := by rw [itoa_pos (by omega), dec_small (by decide)]; rfl
/-- **num.Read.** -/
theorem read_is (s : ByteArray) (n er : Int) (h : Told s.data.toList n er) (w : World) :
    Calls Try.prog 37 #[.string s] w fun e w' => e = .returned (.tuple #[.int .i64 n, .int .i64 er]) ∧ Below w.heap.size w w' := by
  obtain ⟨m, r, hs⟩ := signed_ex s
  have none_of : (∀ k, ¬ NumOf s.data.toList k) → n = 0 ∧ er = 10 := fun hn => h.unique (.inr ⟨rfl, rfl, hn⟩)
  by_cases hb : BadRest s r
  · obtain ⟨rfl, rfl⟩ := none_of (bad_none hs hb)
    exact read_bad1 s m r hs hb w
  by_cases hz : s.data.toList = [48]
  · rcases signed_list hs with ⟨rfl, e⟩ | ⟨rfl, h2, e⟩
    · rw [hz] at e; injection e with e; cases e
    · rcases hs with ⟨h0, _⟩ | ⟨_, _, rfl⟩
      · cases h0
      · obtain ⟨rfl, rfl⟩ := h.unique (.inl ⟨rfl, ⟨⟨by omega, by omega⟩, itoa_zero.trans hz.symm⟩⟩ : Told r.data.toList 0 0)
        exact read_zero r (.inr ⟨rfl, h2, rfl⟩) hz w
  have hl := size_len r
  have h1 : 1 ≤ r.size := by
    rcases Nat.eq_zero_or_pos r.size with h0 | h0
    · exact absurd (.inl h0) hb
    · exact h0
  have h2 : r.size ≤ 19 := by
    rcases Nat.lt_or_ge 19 r.size with h0 | h0
    · exact absurd (.inr (.inl h0)) hb
    · exact h0
  have hh : r.data.toList.head? ≠ some 48 := fun e => hb (.inr (.inr ⟨h1, h2, e, hz⟩))
  have hz' : ((r[0].toNat : Int) == 48) = false := by
    rw [beq_eq_false_iff_ne]
    intro e
    refine hh ?_
    rw [head_at h1]
    congr 1
    apply UInt8.toNat_inj.1
    show r[0].toNat = 48
    omega
  by_cases hd : AllDig r.data.toList
  · have hc : Canon r.data.toList := ⟨hd, fun e => by rw [e] at hl; simp at hl; omega, .inr hh⟩
    cases m with
    | false =>
      have e : r.data.toList = s.data.toList := by
        rcases signed_list hs with ⟨h0, _⟩ | ⟨_, _, e⟩
        · cases h0
        · exact e
      by_cases hx : valD r.data.toList ≤ 9223372036854775807
      · obtain ⟨rfl, rfl⟩ := h.unique (.inl ⟨rfl, (e ▸ numOf_pos hc hx : NumOf s.data.toList (valD r.data.toList : Nat))⟩)
        exact read_pos s r hs h1 h2 hz' hd hx w
      · obtain ⟨rfl, rfl⟩ := none_of fun k hk => by
          rcases (signed_num hs hk).2 with ⟨_, h5⟩ | ⟨h5, _⟩
          · exact hx h5
          · cases h5
        exact read_big_pos s r hs h1 h2 hz' hd (by omega) w
    | true =>
      have e : s.data.toList = 45 :: r.data.toList := by
        rcases signed_list hs with ⟨_, e⟩ | ⟨h0, _⟩
        · exact e
        · cases h0
      by_cases hx : valD r.data.toList ≤ 9223372036854775808
      · obtain ⟨rfl, rfl⟩ := h.unique (.inl ⟨rfl, e ▸ numOf_neg hc (fun e => hh (by rw [e]; rfl)) hx⟩)
        have := read_neg s r hs h1 h2 hz' hd hx w
        rw [neg_wrap hx] at this
        exact this
      · obtain ⟨rfl, rfl⟩ := none_of fun k hk => by
          rcases (signed_num hs hk).2 with ⟨h5, _⟩ | ⟨_, _, h5⟩
          · cases h5
          · exact hx h5
        exact read_big_neg s r hs h1 h2 hz' hd (by omega) w
  · obtain ⟨rfl, rfl⟩ := none_of fun k hk => hd (signed_num hs hk).1.1
    cases m
    · exact read_nodig_f s r hs h1 h2 hz' hd w
    · exact read_nodig_t s r hs h1 h2 hz' hd w
end Go.Proofs.Ytbkgcikhiomenaa
