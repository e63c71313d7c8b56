/-
  Blocks of numbers and of bits that are known whole; slices.Index, slices.Clone, slices.Min at numbers; whether two lists of numbers are the same.
-/
import Derived.Test.YtohoihicmmidmaaKnCheck
import Derived.Deep.OwnRows
import Derived.Lib.SliceRun
namespace Go.Proofs.Ytohoihicmmidmaa
set_option linter.unusedVariables false
set_option linter.unusedSimpArgs false
open Go.Instr
open Go.ChangeShapes Go.WideShapes Go.ChangeAt Go.RowKit Kn

/-- Natural numbers as Go's. -/
def nI (xs : List Nat) : List Int := xs.map Int.ofNat
theorem nI_len (xs : List Nat) : (nI xs).length = xs.length := by simp [nI]
theorem nI_at (xs : List Nat) (i : Nat) : (nI xs).getD i 0 = ((xs.getD i 0 : Nat) : Int) := by
  unfold nI
  rw [List.getD_eq_getElem?_getD, List.getElem?_map, List.getD_eq_getElem?_getD]
  cases xs[i]? <;> rfl
theorem nI_set (xs : List Nat) (i v : Nat) : (nI xs).set i (v : Int) = nI (xs.set i v) := by simp [nI, List.map_set]
theorem nI_app (xs ys : List Nat) : nI (xs ++ ys) = nI xs ++ nI ys := by simp [nI]
theorem nI_inj {xs ys : List Nat} (h : nI xs = nI ys) : xs = ys := by
  exact List.map_inj_right (fun a b e => Int.ofNat.inj e) |>.1 h

/-- A block of numbers; of bits. -/
def IBlk (w : World) (g : Nat) (ys : List Int) : Prop := Blk w g 3 (ys.map (Value.int .i64)).toArray
def BBlk (w : World) (g : Nat) (bs : List Bool) : Prop := Blk w g 4 (bs.map Value.bool).toArray
section
variable {w w' : World} {g : Nat} {ys : List Int} {bs : List Bool}
theorem IBlk.lt (h : IBlk w g ys) : g < w.heap.size := Blk.lt h
theorem BBlk.lt (h : BBlk w g bs) : g < w.heap.size := Blk.lt h
theorem IBlk.at_ (h : IBlk w g ys) {i : Nat} (hi : i < ys.length) : w.cell? ⟨g, i, none⟩ = some (.int .i64 (ys.getD i 0)) := by
  rw [Blk.cells h i]
  simp [hi, List.getD_eq_getElem?_getD]
theorem BBlk.at_ (h : BBlk w g bs) {i : Nat} (hi : i < bs.length) : w.cell? ⟨g, i, none⟩ = some (.bool (bs.getD i false)) := by
  rw [Blk.cells h i]
  simp [hi, List.getD_eq_getElem?_getD]
theorem IBlk.free (h : IBlk w g ys) (i : Nat) : w.frozen? ⟨g, i, none⟩ = false := Blk.free h i
theorem BBlk.free (h : BBlk w g bs) (i : Nat) : w.frozen? ⟨g, i, none⟩ = false := Blk.free h i
theorem IBlk.put (h : IBlk w g ys) (i : Nat) (z : Int) : IBlk (w.setCell ⟨g, i, none⟩ (.int .i64 z)) g (ys.set i z) := by
  have := Blk.put h i (.int .i64 z)
  unfold IBlk
  rwa [List.map_set, ← List.setIfInBounds_toArray]
theorem BBlk.put (h : BBlk w g bs) (i : Nat) (z : Bool) : BBlk (w.setCell ⟨g, i, none⟩ (.bool z)) g (bs.set i z) := by
  have := Blk.put h i (.bool z)
  unfold BBlk
  rwa [List.map_set, ← List.setIfInBounds_toArray]
theorem IBlk.beneath (h : IBlk w g ys) (hb : Below w.heap.size w w') : IBlk w' g ys := Blk.beneath h hb
theorem BBlk.beneath (h : BBlk w g bs) (hb : Below w.heap.size w w') : BBlk w' g bs := Blk.beneath h hb
theorem IBlk.alloc (h : IBlk w g ys) (o : Obj) : IBlk (w.alloc o) g ys := Blk.alloc h o
theorem BBlk.alloc (h : BBlk w g bs) (o : Obj) : BBlk (w.alloc o) g bs := Blk.alloc h o
theorem IBlk.far (h : IBlk w g ys) {p : Addr} (hp : g ≠ p.block) (u : Value) : IBlk (w.setCell p u) g ys := Blk.far h hp u
theorem BBlk.one {bs' : List Bool} (h : BBlk w g bs) (h' : BBlk w g bs') : bs = bs' := by
  have h1 : w.heap[g]? = some (.cells (bs.map Value.bool).toArray 4 (0, 0)) := h
  have h2 : w.heap[g]? = some (.cells (bs'.map Value.bool).toArray 4 (0, 0)) := h'
  rw [h1] at h2
  injection h2 with h2
  injection h2 with h2
  have h3 : bs.map Value.bool = bs'.map Value.bool := by simpa using h2
  exact List.map_inj_right (fun a b e => by injection e) |>.1 h3
theorem IBlk.one {ys' : List Int} (h : IBlk w g ys) (h' : IBlk w g ys') : ys = ys' := by
  have h1 : w.heap[g]? = some (.cells (ys.map (Value.int .i64)).toArray 3 (0, 0)) := h
  have h2 : w.heap[g]? = some (.cells (ys'.map (Value.int .i64)).toArray 3 (0, 0)) := h'
  rw [h1] at h2
  injection h2 with h2
  injection h2 with h2
  have h3 : ys.map (Value.int .i64) = ys'.map (Value.int .i64) := by simpa using h2
  exact List.map_inj_right (fun a b e => by injection e) |>.1 h3
theorem made_rep (z : Value) (n : Nat) : madeCells #[z] n = (List.replicate n z).toArray := by
  apply Array.ext
  · simp [size_madeCells]
  · intro i h1 h2
    simp [madeCells, Nat.mod_one]
theorem IBlk.made (w : World) (n : Nat) : IBlk (w.alloc (.cells (madeCells #[.int .i64 0] n) 3)) w.heap.size (List.replicate n 0) := by
  unfold IBlk
  rw [List.map_replicate, ← made_rep]
  exact Blk.new w _ _
theorem BBlk.made (w : World) (n : Nat) : BBlk (w.alloc (.cells (madeCells #[.bool false] n) 4)) w.heap.size (List.replicate n false) := by
  unfold BBlk
  rw [List.map_replicate, ← made_rep]
  exact Blk.new w _ _
/-- Such a block is a list of the call's own. -/
theorem IBlk.own (h : IBlk w g ys) {lo : Nat} (hl : lo ≤ g) (hm : ys.length ≤ maxLen) : OwnInts w lo (.slice (some ⟨g, 0, none⟩) ys.length ys.length) ys :=
  ⟨by simp, .inr ⟨g, ys.length, _, rfl, hl, h, Nat.le_refl _, hm, by simp, List.take_of_length_le (by simp)⟩⟩
theorem IBlk.ints (h : IBlk w g ys) : IntsAt w g (g + 1) (some ⟨g, 0, none⟩) ys := fun hn =>
  ⟨g, 0, rfl, Nat.le_refl _, Nat.lt_succ_self _, fun i hi j hj => by
    obtain rfl : j = 0 := by omega
    rw [show 0 + i * 1 + 0 = i by omega]
    exact h.at_ hi⟩
end
noncomputable def bitsOf (w : World) (g : Nat) : List Bool := Classical.epsilon (BBlk w g)
theorem bits_of {w : World} {g : Nat} {bs : List Bool} (h : BBlk w g bs) : bitsOf w g = bs := BBlk.one (Classical.epsilon_spec (p := BBlk w g) ⟨bs, h⟩) h
noncomputable def numsOf (w : World) (g : Nat) : List Int := Classical.epsilon (IBlk w g)
theorem nums_of {w : World} {g : Nat} {ys : List Int} (h : IBlk w g ys) : numsOf w g = ys := IBlk.one (Classical.epsilon_spec (p := IBlk w g) ⟨ys, h⟩) h
theorem boolInfo : (Try.prog.info? 4).map (fun i => (i.zero, i.size, i.bytes)) = some (some (.bool false), 1, 1) := by kernel_rfl
theorem make_bools (n : Nat) (hn : n ≤ 1000000) (w : World) : (Instr.makeSlice 29 (.int .i64 (n : Int)) (.int .i64 (n : Int))).run Try.prog w = .ok (.slice (some ⟨w.heap.size, 0, none⟩) n n) (w.alloc (.cells (madeCells #[.bool false] n) 4)) :=
  run_make_row' 29 4 (.bool false) 1 Try.underlying29 boolInfo rfl .i64 .i64 n (by omega) (by omega) w
theorem make_ints (n : Nat) (hn : n ≤ 1000000) (w : World) : (Instr.makeSlice 25 (.int .i64 (n : Int)) (.int .i64 (n : Int))).run Try.prog w = .ok (.slice (some ⟨w.heap.size, 0, none⟩) n n) (w.alloc (.cells (madeCells #[.int .i64 0] n) 3)) :=
  run_make_row' 25 3 (.int .i64 0) 8 Try.underlying25 intInfo rfl .i64 .i64 n (by omega) (by omega) w

theorem OwnInts.full {w : World} {lo : Nat} {v : Value} {xs : List Int} (h : OwnInts w lo v xs) : ∃ A c, v = .slice A xs.length c ∧ Hdr A xs.length c ∧ IntsAt w 0 w.heap.size A xs := by
  obtain ⟨A, c, hv, hn, hi, h1, h2⟩ := h.form
  exact ⟨A, c, hv, ⟨h1, h2, hn⟩, hi.more (Nat.zero_le _) (Nat.le_refl _)⟩
theorem Hdr.le {A : Option Addr} {n c : Nat} (h : Hdr A n c) : n ≤ 9223372036854775807 := by
  have := Nat.le_trans h.fit h.cap
  unfold maxLen at this
  omega
theorem take_eq_succ {α : Type} {d : α} {xs ys : List α} {k : Nat} (h : xs.take k = ys.take k) (h1 : k < xs.length) (h2 : k < ys.length) (e : xs.getD k d = ys.getD k d) : xs.take (k + 1) = ys.take (k + 1) := by
  rw [take_succ_getD (d := d) h1, take_succ_getD (d := d) h2, h, e]
theorem ne_of_getD {α : Type} {d : α} {xs ys : List α} {k : Nat} (e : xs.getD k d ≠ ys.getD k d) : xs ≠ ys := fun h => e (by rw [h])
theorem sameInts_any {w : World} {lo lo' B B' : Nat} {A A' : Option Addr} {c c' : Nat} {xs ys : List Int} (hh : Hdr A xs.length c) (hx : IntsAt w lo B A xs) (hh' : Hdr A' ys.length c') (hy : IntsAt w lo' B' A' ys) :
    Calls Try.prog 18 #[.slice A xs.length c, .slice A' ys.length c'] w fun e w' => e = .returned (.bool (decide (xs = ys))) ∧ Below w.heap.size w w' := by
  have hl := Nat.le_trans hh.fit hh.cap
  have hl' := Nat.le_trans hh'.fit hh'.cap
  unfold maxLen at hl hl'
  have HX := Lib.hid hx
  have HY := Lib.hid hy
  clear hx hy hh hh'
  by_cases hlen : xs.length = ys.length
  · have q : (xs.length : Int) = ys.length := by omega
    go_enter Try.func18, Try.ntmps18
    go_wp2_with fail
    go_loopw [5] (fun i wr => ∃ k : Nat, k ≤ xs.length ∧ i = .int .i64 k ∧ Hid (xs.take k = ys.take k) ∧ Below w.heap.size w wr) (fun i _ => xs.length - (intOf i).toNat)
    case atStart => exact ⟨0, Nat.zero_le _, rfl, Lib.hid rfl, Below.refl _ _⟩
    case round =>
      obtain ⟨k, hk, rfl, HT, hbel⟩ := hrel
      have HB := Lib.hid hbel
      clear hbel
      by_cases hlt : k < xs.length
      · obtain ⟨b, off, x, rfl, hcell, HE⟩ := (HX.out.cell hlt)
        obtain ⟨b', off', y, rfl, hcell', HE'⟩ := (HY.out.cell (k := k) (by omega))
        have d1 := (HB.out.cell (p := ⟨b, off + k, none⟩) (World.block_lt_of_cell? w _ hcell)).trans hcell
        have d2 := (HB.out.cell (p := ⟨b', off' + k, none⟩) (World.block_lt_of_cell? w _ hcell')).trans hcell'
        clear hcell hcell'
        by_cases hxy : x = y
        · subst hxy
          go_wp2_with fail
          go_quiet (fail)
          go_wp2_with fail
          go_roundw
          case rel => exact ⟨k + 1, by omega, by go_num, Lib.hid (take_eq_succ (d := 0) HT.out hlt (by omega) (by rw [HE.out, HE'.out])), belowDrewN HB.out _⟩
          case measure => simp [intOf]; omega
        · have hne : (x == y) = false := by simpa using hxy
          have HN : Hid (xs ≠ ys) := Lib.hid (ne_of_getD (d := 0) (k := k) (by rw [HE.out, HE'.out]; exact hxy))
          go_wp2_with fail
          go_quiet (fail)
          go_wp2_with fail
          go_ret
          exact ⟨ret_bool (by rw [decide_eq_false HN.out]), belowDrewN HB.out _⟩
      · go_wp2_with fail
        go_ret
        exact ⟨ret_bool (by rw [decide_eq_true]; have := HT.out; rwa [List.take_of_length_le (by omega), List.take_of_length_le (by omega)] at this), HB.out⟩
  · have q : ¬ (xs.length : Int) = ys.length := by omega
    have HN : Hid (xs ≠ ys) := Lib.hid (fun h => hlen (by rw [h]))
    clear hlen
    go_enter Try.func18, Try.ntmps18
    go_wp2_with fail
    go_ret
    exact ⟨ret_bool (by rw [decide_eq_false HN.out]), Below.refl _ _⟩
/-- slices.Index where the number stands at k first. -/
theorem index_any {w : World} {lo B : Nat} {A : Option Addr} {c : Nat} {xs : List Int} (hh : Hdr A xs.length c) (hx : IntsAt w lo B A xs) (y : Int) (k : Nat) (hk : k < xs.length) (hy : xs.getD k 0 = y) (hf : ∀ j, j < k → xs.getD j 0 ≠ y) :
    Calls Try.prog 32 #[.slice A xs.length c, .int .i64 y] w fun e w' => e = .returned (.int .i64 (k : Int)) ∧ w = w' := by
  have hl := hh.le
  have HX := Lib.hid hx
  have HF := Lib.hid hf
  have HY := Lib.hid hy
  clear hx hh hf hy
  go_enter Try.func32, Try.ntmps32
  go_wp2_with fail
  go_loopw [8] (fun i wr => ∃ j : Nat, j ≤ k ∧ i = .int .i64 j ∧ w = wr) (fun i _ => xs.length - (intOf i).toNat)
  case atStart => exact ⟨0, Nat.zero_le _, rfl, rfl⟩
  case round =>
    obtain ⟨j, hj, rfl, rfl⟩ := hrel
    obtain ⟨b, off, x, rfl, hcell, HE⟩ := HX.out.cell (k := j) (by omega)
    by_cases hjk : j = k
    · subst hjk
      have hxy : y = x := by rw [← HY.out, HE.out]
      subst hxy
      have hlt : j < xs.length := by omega
      go_wp2_with fail
      go_ret
      exact ⟨rfl, rfl⟩
    · have hne : (y == x) = false := by
        have h1 := HF.out j (by omega)
        rw [HE.out] at h1
        simpa using fun e => h1 (Eq.symm e)
      have hlt : j < xs.length := by omega
      go_wp2_with fail
      go_roundw
      case rel => exact ⟨j + 1, by omega, by go_num, trivial⟩
      case measure => simp [intOf]; omega
theorem OwnInts.zero (w : World) (lo g : Nat) (h : lo ≤ w.heap.size) (hg : g = w.heap.size) : OwnInts (w.alloc (.cells #[] 3)) lo (.slice (some ⟨g, 0, none⟩) 0 0) [] := by
  subst hg
  exact World.ownsRow_lit w #[] 0 h (by unfold maxLen; omega) rfl
/-- slices.Clone, of a list that is not nil. -/
theorem clone_any {w : World} {lo B : Nat} {ad : Addr} {c : Nat} {xs : List Int} (hh : Hdr (some ad) xs.length c) (hx : IntsAt w lo B (some ad) xs) (hB : B ≤ w.heap.size) (hl : xs.length ≤ 1000) :
    Calls Try.prog 33 #[.slice (some ad) xs.length c] w fun e w' => ∃ v, e = .returned v ∧ OwnInts w' w.heap.size v xs ∧ Below w.heap.size w w' := by
  have hb0 : Below w.heap.size w (w.alloc (.cells #[] 3)) := (Below.refl _ _).alloc (Nat.le_refl _) _
  have HX := Lib.hid ((hx.more (Nat.le_refl _) hB).keep hb0)
  have HB := Lib.hid hb0
  have HZ : Hid (OwnInts (w.alloc (.cells #[] 3)) w.heap.size (.slice (some ⟨w.heap.size, 0, none⟩) 0 0) []) := Lib.hid (OwnInts.zero _ _ _ (Nat.le_refl _) rfl)
  clear hx hh hb0
  have qn : ∀ (w : World) (a : Option Addr) (n c n' c' : Nat), (binOp .eql 25 (.slice a n c) (.slice none n' c')).run Try.prog w = .ok (.bool a.isNone) w := fun w a n c n' c' => Lib.run_eql_slice_nil w _ _ a n c n' c' Try.underlying25
  go_enter Try.func33, Try.ntmps33
  go_wp2_with (at_builtin; refine wpList_appN rfl (.tmp 5) (.tmp 6) rfl w.heap.size _ _ _ [] rfl HZ.out (some ad) xs.length c xs rfl rfl (fun h => by cases h) HX.out (by simp; omega) (by simp) ?_; intro v1 w1 hown1 hg1; refine pause ?_)
  have HB1 := Lib.hid (HB.out.grown hg1 (by simp) (fun k hk => by have : w.heap.size = k := Option.some.inj hk; omega))
  rw [List.nil_append] at hown1
  have HO := Lib.hid hown1
  clear hown1 hg1
  refine resume ?_
  go_wp2_with fail
  go_ret
  exact ⟨_, rfl, HO.out, HB1.out⟩
/-- slices.Min, of a list that is not empty. -/
theorem min_any {w : World} {lo B : Nat} {A : Option Addr} {c : Nat} {xs : List Int} (hh : Hdr A xs.length c) (hx : IntsAt w lo B A xs) (h0 : 0 < xs.length) :
    Calls Try.prog 21 #[.slice A xs.length c] w fun e w' => ∃ m, e = .returned (.int .i64 m) ∧ m ∈ xs ∧ (∀ x ∈ xs, m ≤ x) ∧ w = w' := by
  have hl := hh.le
  have HX := Lib.hid hx
  obtain ⟨b, off, x0, rfl, hcell, HE⟩ := hx.cell h0
  have HE0 := HE
  rw [Nat.add_zero] at hcell
  have hl1 : ¬ (xs.length : Int) < 1 := by omega
  clear hx hh
  go_enter Try.func21, Try.ntmps21
  go_wp2_with fail
  go_loopw [3, 4] (fun m i wr => ∃ (j : Nat) (z : Int), j ≤ xs.length ∧ 1 ≤ j ∧ i = .int .i64 j ∧ m = .int .i64 z ∧ Hid (z ∈ xs ∧ ∀ x ∈ xs.take j, z ≤ x) ∧ w = wr) (fun _ i _ => xs.length - (intOf i).toNat)
  case atStart => exact ⟨1, x0, h0, Nat.le_refl _, rfl, rfl, Lib.hid ⟨by rw [← HE.out, getD_lt xs h0]; exact List.getElem_mem h0, fun x hx => by
    rw [take_succ_getD (d := 0) h0, List.take_zero, List.nil_append, HE0.out, List.mem_singleton] at hx
    omega⟩, rfl⟩
  case round =>
    obtain ⟨j, z, hj, hj1, rfl, rfl, HM, rfl⟩ := hrel
    by_cases hlt : j < xs.length
    · obtain ⟨b', off', y, hA, hc', HE'⟩ := HX.out.cell hlt
      injection hA with hA
      injection hA with h1 h2 _
      subst h1 h2
      have HM2 : Hid (min z y ∈ xs ∧ ∀ x ∈ xs.take (j + 1), min z y ≤ x) := Lib.hid (by
        refine ⟨?_, fun x hx => ?_⟩
        · by_cases hzy : z ≤ y
          · rw [Int.min_eq_left hzy]; exact HM.out.1
          · rw [Int.min_eq_right (by omega), ← HE'.out, getD_lt xs hlt]; exact List.getElem_mem hlt
        · rw [take_succ_getD (d := 0) hlt, List.mem_append, List.mem_singleton, HE'.out] at hx
          rcases hx with hx | hx
          · have := HM.out.2 x hx; omega
          · omega)
      go_wp2_with fail
      go_roundw
      case rel => exact ⟨j + 1, _, by omega, by omega, by go_num, rfl, HM2, trivial⟩
      case measure => simp [intOf]; omega
    · go_wp2_with fail
      go_ret
      exact ⟨_, rfl, HM.out.1, by have := HM.out.2; rwa [List.take_of_length_le (by omega)] at this, rfl⟩
end Go.Proofs.Ytohoihicmmidmaa
