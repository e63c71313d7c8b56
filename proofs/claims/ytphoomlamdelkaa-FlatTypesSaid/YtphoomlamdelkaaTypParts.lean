/-
  slices.Repeat at one number; the program's parts of a type.
-/
import Derived.Test.YtphoomlamdelkaaTypCells
import Derived.Test.YtphoomlamdelkaaShelf
import Derived.Laws.CopyOwn
import Derived.Deep.RegionLaw
import Derived.Outline
namespace Go.Proofs.Ytphoomlamdelkaa
set_option linter.unusedVariables false
set_option linter.unusedSimpArgs false
open Go.ChangeShapes Go.WideShapes Go.ChangeAt Go.RowKit

/-- What a row that is being filled holds. -/
def repC (x : Int) (n m : Nat) : List Value := List.replicate n (.int .i64 x) ++ List.replicate (m - n) (.int .i64 0)
theorem repC_len (x : Int) {n m : Nat} (h : n ≤ m) : (repC x n m).length = m := by unfold repC; simp; omega
theorem repC_splice (x : Int) {n m : Nat} (h : n < m) : splice (repC x n m) n (List.replicate (Nat.min n (m - n)) (.int .i64 x)) = repC x (n + Nat.min n (m - n)) m := by
  have hm : Nat.min n (m - n) ≤ m - n := Nat.min_le_right _ _
  generalize Nat.min n (m - n) = c at hm
  unfold splice repC
  rw [List.length_replicate, List.take_left' (by simp), List.drop_append, List.drop_of_length_le (by simp), List.nil_append, List.length_replicate, List.drop_replicate, ← List.replicate_append_replicate, List.append_assoc]
  congr 3
  omega
theorem repC_zero (x : Int) (m : Nat) : repC x 0 m = List.replicate m (.int .i64 0) := by unfold repC; simp
theorem repC_full (x : Int) (m : Nat) : repC x m m = List.replicate m (.int .i64 x) := by unfold repC; simp
theorem repC_first (x : Int) {m : Nat} (h : 1 ≤ m) : splice (repC x 0 m) 0 [.int .i64 x] = repC x 1 m := by
  unfold splice repC
  obtain ⟨k, rfl⟩ : ∃ k, m = k + 1 := ⟨m - 1, by omega⟩
  simp [List.replicate_succ]

theorem intSize : (Try.prog.info? 3).map (·.size) = some 1 := by kernel_rfl
theorem one_at {w : World} {A : Addr} {v : Value} (h : w.cell? A = some v) : ∀ (j : Nat) (u : Value), ([v] : List Value)[j]? = some u → w.cell? (A.add j) = some u
  | 0, u, hu => by
    have : v = u := by simpa using hu
    rw [← this]
    simpa [Addr.add] using h
  | j + 1, u, hu => by simp at hu
theorem made_one (z : Value) (n : Nat) : (madeCells #[z] n).toList = List.replicate n z := by
  unfold madeCells
  apply List.ext_getElem
  · simp
  · intro i h1 h2
    simp [Nat.mod_one]
theorem blk_made {w : World} {lo g m : Nat} {z : Int} (h : w.ownsRow lo 3 1 (.slice (some ⟨g, 0, none⟩) m m) m (madeCells (Value.int .i64 z).cells (m * 1)).toList) : Blk w g 3 (List.replicate m (Value.int .i64 z)).toArray := by
  rcases h.2 with ⟨h1, _⟩ | ⟨g', cap, cur, h1, h2, h3, h4, h5, h6, h7⟩
  · cases h1
  · injection h1 with h1 _ hc
    injection h1 with h1
    injection h1 with h1
    subst h1 hc
    show w.heap[g]? = _
    rw [h3]
    congr 2
    apply Array.toList_inj.1
    rw [List.take_of_length_le (by rw [Array.length_toList, h6]; omega)] at h7
    rw [h7]
    show (madeCells #[.int .i64 z] (m * 1)).toList = _
    rw [made_one, Nat.mul_one]
theorem ints_blk {w : World} {lo g m : Nat} {x : Int} (hb : Blk w g 3 (List.replicate m (Value.int .i64 x)).toArray) (hl : lo ≤ g) (hm : m ≤ 1000) : OwnInts w lo (.slice (some ⟨g, 0, none⟩) m m) (List.replicate m x) := by
  unfold OwnInts
  rw [List.length_replicate, List.map_replicate]
  refine ⟨by simp, .inr ⟨g, m, _, rfl, hl, hb, Nat.le_refl _, by unfold maxLen; omega, by simp, ?_⟩⟩
  simp
set_option maxHeartbeats 800000 in
theorem repeat_any {w : World} {A : Addr} {c : Nat} {x : Int} {m : Nat} (hx : w.cell? A = some (.int .i64 x)) (h1 : 1 ≤ m) (h2 : m ≤ 1000) :
    Calls Try.prog 69 #[.slice (some A) 1 c, .int .i64 m] w (SomeInts (List.replicate m x) w) := by
  obtain ⟨i0, hi, hz0, hz1, hz2⟩ := info_parts intInfo
  go_enter Try.func69, Try.ntmps69
  go_wp2_with fail
  refine (Try.bits_Mul 1 m (by omega) (by omega) _).mono ?_
  rintro e w1 ⟨rfl, rfl⟩
  rw [Nat.one_mul, Nat.div_eq_of_lt (by omega), Nat.mod_eq_of_lt (by omega)]
  go_wp2_with (refine wpList_make_full _ rfl (.tmp 29) (.tmp 29) 29 rfl w1.heap.size 3 i0 (.int .i64 0) 1 Try.underlying29 hi hz0 hz1 .i64 .i64 m m m rfl rfl rfl rfl (by rw [hz2]; omega) (by unfold maxLen; omega) (Nat.le_refl _) ?_; intro w2 hown hg; refine pause ?_)
  have hb2 : Below w1.heap.size w1 w2 := (Below.refl _ _).grown hg (Nat.le_refl _) (fun k hk => by cases hk)
  have hk2 := blk_made hown
  rw [← repC_zero x m] at hk2
  have HA := World.block_lt_of_cell? w1 _ hx
  have hx2 := (hb2.cell (p := A) HA).trans hx
  have HK2 := Lib.hid hk2
  have HB2 := Lib.hid hb2
  have HX2 := Lib.hid hx2
  have hz2' : w1.heap.size < w2.heap.size := hk2.lt
  clear hown hg hb2 hk2 hx2 hx
  have hmin : Nat.min 1 m = 1 := Nat.min_eq_left h1
  refine resume ?_
  go_wp2_with ((with_reducible show wpList _ _ _ _ _ _); refine wpList_copy_splice (o := ⟨some 33, _, _, _, _, _⟩) rfl (.tmp 31) (.tmp 32) 29 29 rfl 3 Try.underlying29 intSize (some ⟨w1.heap.size, 0, none⟩) (some A) m m 1 c rfl rfl w1.heap.size 0 (repC x 0 m) 3 HK2.out [.int .i64 x] hmin.symm (fun _ => ⟨rfl, A, rfl, one_at HX2.out⟩) (by rw [repC_len x (Nat.zero_le _)]; exact h1) (fun v hv => by rw [List.mem_singleton.1 hv]; rfl) w1.heap.size w1 HB2.out (Nat.le_refl _) ?_; intro w3 hg3 hb3; refine pause ?_)
  rw [repC_first x h1] at hg3
  have HB3 := Lib.hid hb3
  clear hb3
  refine resume ?_
  go_wp2_with fail
  have HK3 : Hid (Blk w3 w1.heap.size 3 (repC x 1 m).toArray) := hg3
  clear hg3
  go_loopw [8] (fun i wr => ∃ n : Nat, 1 ≤ n ∧ n ≤ m ∧ i = .int .i64 n ∧ Blk wr w1.heap.size 3 (repC x n m).toArray ∧ Below w1.heap.size w1 wr) (fun i _ => m - (intOf i).toNat)
  case atStart => exact ⟨1, Nat.le_refl _, h1, rfl, HK3.out, HB3.out⟩
  case round =>
    obtain ⟨n, hn1, hnm, rfl, hblk, hbel⟩ := hrel
    have HK := Lib.hid hblk
    have HB := Lib.hid hbel
    have hz := hblk.lt
    clear hblk hbel
    by_cases hlt : n < m
    · have hc1 : Nat.min n (m - n) ≤ m - n := Nat.min_le_right _ _
      have hc0 : 1 ≤ Nat.min n (m - n) := Nat.le_min.2 ⟨hn1, by omega⟩
      have HS := Lib.hid (repC_splice x hlt)
      have HSRC : Hid (∀ j u, (List.replicate (Nat.min n (m - n)) (Value.int .i64 x))[j]? = some u → wr.cell? ((⟨w1.heap.size, 0, none⟩ : Addr).add j) = some u) := Lib.hid (fun j u hj => by
        have hjl : j < Nat.min n (m - n) := by
          have := (List.getElem?_eq_some_iff.1 hj).1
          simpa using this
        have hjn : j < n := Nat.lt_of_lt_of_le hjl (Nat.min_le_left _ _)
        rw [List.getElem?_replicate, if_pos hjl] at hj
        rw [add_lit, Nat.zero_add, HK.out.cells j, List.getElem?_toArray]
        unfold repC
        rw [List.getElem?_append_left (by simpa using hjn), List.getElem?_replicate, if_pos hjn]
        exact hj)
      have HLR : Hid ((List.replicate (Nat.min n (m - n)) (Value.int .i64 x)).length = Nat.min n (m - n)) := Lib.hid (by simp)
      have HOC : Hid (∀ v ∈ List.replicate (Nat.min n (m - n)) (Value.int .i64 x), v.oneCell' = true) := Lib.hid (fun v hv => by rw [(List.mem_replicate.1 hv).2]; rfl)
      have hsl : ¬ m = n := by omega
      generalize hcn : Nat.min n (m - n) = cn at hc1 hc0 HS HSRC HLR HOC
      have HCN := Lib.hid hcn
      clear hcn
      have hwr : IntKind.i64.wrap ((n : Int) + cn) = n + cn := IntWalk.i64_in _ (by omega)
      go_wp2_with fail
      go_region_law (refine step_copy_splice rfl (.tmp 41) (.tmp 44) 29 29 rfl 3 Try.underlying29 intSize (some ⟨w1.heap.size, n, none⟩) (some ⟨w1.heap.size, 0, none⟩) (m - n) (m - n) n m (by simp [Act.eval, Act.put]) (by simp [Act.eval, Act.put]) w1.heap.size n (repC x n m) 3 HK.out.drew (List.replicate cn (.int .i64 x)) (HLR.out.trans HCN.out.symm) (fun _ => ⟨rfl, _, rfl, HSRC.out⟩) (by rw [repC_len x hnm, HLR.out]; omega) HOC.out w1.heap.size w1 (belowDrewN HB.out 1) (Nat.le_refl _) ?_; intro w5 hg5 hb5)
      all_goals
        have HB5 := Lib.hid hb5
        have HG5 : Hid (Blk w5 w1.heap.size 3 (repC x (n + cn) m).toArray) := Lib.hid (by have := hg5.out; rwa [HS.out] at this)
        clear hg5 hb5
        go_wp2_with fail
        have HR5 : Hid (∃ n' : Nat, 1 ≤ n' ∧ n' ≤ m ∧ Value.int .i64 ((n : Int) + cn) = .int .i64 n' ∧ Blk w5 w1.heap.size 3 (repC x n' m).toArray ∧ Below w1.heap.size w1 w5) := Lib.hid ⟨n + cn, by omega, by omega, by go_num, HG5.out, HB5.out⟩
        refine ⟨⟨Value.int .i64 ((n : Int) + cn), _, _, _, _, _, _, _, _, _, _, _, _, _, HR5.out, rfl⟩, ?_⟩
        show m - ((n : Int) + cn).toNat < m - (n : Int).toNat
        omega
    · go_wp2_with fail
      go_ret
      have hnn : n = m := by omega
      subst hnn
      refine ⟨_, rfl, ints_blk (by have := HK.out; rwa [repC_full] at this) (Nat.le_refl _) h2, HB.out⟩

/-- parts answers: the struct's own list, or a new one. -/
def SomeParts (xs : List Int) (w : World) (e : Ending) (w' : World) : Prop := ∃ A c, e = .returned (.slice A xs.length c) ∧ Hdr A xs.length c ∧ IntsAt w' 0 w'.heap.size A xs ∧ Below w.heap.size w w'
theorem parts_any {w : World} {lo : Nat} (r : TyR) (hr : r.Ok w lo w.heap.size) (hm : r.kind = 5 → 1 ≤ r.many ∧ r.many ≤ 16) :
    Calls Try.prog 49 #[r.val] w (SomeParts (partsT r.data) w) := by
  obtain ⟨κ, el, ma, pa, pc, parts⟩ := r
  simp only at hm
  have HK := Lib.hid hr
  clear hr
  unfold TyR.val
  by_cases e4 : κ = 4
  · subst e4
    go_enter Try.func49, Try.ntmps49
    go_wp2_with fail
    go_ret
    refine ⟨pa, pc, rfl, HK.out.hdr, ?_, (Below.refl _ _).alloc (Nat.le_refl _) _⟩
    exact ((HK.out.ints.keep ((Below.refl _ _).alloc (Nat.le_refl _) _)).more (Nat.zero_le _) (by rw [World.size_alloc]; omega))
  by_cases e5 : κ = 5
  · obtain ⟨m1, m16⟩ := hm e5
    subst e5
    obtain ⟨m, rfl⟩ := Int.eq_ofNat_of_zero_le (show 0 ≤ ma by omega)
    have HO : Hid (∀ (w2 : World), (w2.alloc (.cells #[.int .i64 el] 3)).cell? ⟨w2.heap.size, 0, none⟩ = some (.int .i64 el)) := Lib.hid fun w2 => (Blk.new w2 3 #[.int .i64 el]).cells 0
    have HP : Hid (partsT ⟨5, el, (m : Int), parts⟩ = List.replicate m el) := Lib.hid rfl
    clear hm
    go_enter Try.func49, Try.ntmps49
    go_wp2_with fail
    have hc2 := HO.out (w.alloc (.cells #[.int .u8 5, .int .i64 el, .int .i64 m, .slice pa parts.length pc] 31))
    rw [World.size_alloc] at hc2
    refine (repeat_any hc2 (by omega) (by omega)).mono ?_
    rintro e w1 ⟨v1, rfl, hown1, hb1⟩
    obtain ⟨A1, c1, rfl, hnil, hints, hle, hcap⟩ := hown1.form
    have HB1 := Lib.hid (below_new2 hb1)
    have HI := Lib.hid hints
    have HH : Hid (Hdr A1 (List.replicate m el).length c1) := Lib.hid ⟨hle, hcap, hnil⟩
    clear hown1 hb1 hnil hints hle hcap hc2
    go_wp2_with fail
    go_ret
    refine ⟨A1, c1, ?_, ?_, ?_, HB1.out⟩
    · show _ = Ending.returned (.slice A1 (partsT ⟨5, el, (m : Int), parts⟩).length c1)
      rw [HP.out, List.length_replicate]; rfl
    · show Hdr A1 (partsT ⟨5, el, (m : Int), parts⟩).length c1
      rw [HP.out]; exact HH.out
    · show IntsAt _ _ _ _ (partsT ⟨5, el, (m : Int), parts⟩)
      rw [HP.out]
      exact HI.out.more (Nat.zero_le _) (Nat.le_refl _)
  have HP : Hid (partsT ⟨κ, el, ma, parts⟩ = []) := Lib.hid (partsT0 e4 e5)
  clear hm
  go_enter Try.func49, Try.ntmps49
  go_wp2_with fail
  all_goals go_ret
  all_goals refine ⟨none, 0, ?_, ?_, ?_, (Below.refl _ _).alloc (Nat.le_refl _) _⟩
  all_goals first | (show _ = Ending.returned (.slice none (partsT ⟨κ, el, ma, parts⟩).length 0); rw [HP.out]; rfl) | (show Hdr none (partsT ⟨κ, el, ma, parts⟩).length 0; rw [HP.out]; exact ⟨Nat.le_refl _, by unfold maxLen; omega, fun _ => ⟨rfl, rfl⟩⟩) | (show IntsAt _ _ _ _ (partsT ⟨κ, el, ma, parts⟩); rw [HP.out]; exact CellsAt.empty)
end Go.Proofs.Ytphoomlamdelkaa
