/-
  The document's All, Head, Heads.
-/
import Derived.Test.YtohoihicmmidmaaKnRef1
namespace Go.Proofs.Ytohoihicmmidmaa
set_option linter.unusedVariables false
set_option linter.unusedSimpArgs false
open Go.ChangeShapes Go.WideShapes Go.ChangeAt Go.RowKit Kn

theorem boolsInfo : (Try.prog.info? 29).map (fun i => (i.zero, i.size, i.bytes)) = some (some (.slice none 0 0), 1, 24) := by kernel_rfl
/-- The rows of what comes to what, made so far. -/
structure Comes (w : World) (lo : Nat) (v : Value) (E : Nat → Nat → Prop) (n : Nat) (gs : List Nat) : Prop where
  row : w.ownsRow lo 29 1 v gs.length (gs.map fun g => .slice (some ⟨g, 0, none⟩) n n)
  bits : ∀ i, i < gs.length → BBlk w (gs.getD i 0) (comeL E n i)
theorem Comes.nil (w : World) (lo : Nat) (E : Nat → Nat → Prop) (n : Nat) : Comes w lo (.slice none 0 0) E n [] := ⟨World.ownsRow_nil _ _ _ _, fun i h => by cases h⟩
theorem Comes.keep {w w' : World} {lo : Nat} {v : Value} {E : Nat → Nat → Prop} {n : Nat} {gs : List Nat} (h : Comes w lo v E n gs) (hb : Below w.heap.size w w') : Comes w' lo v E n gs :=
  ⟨ownsRow_keep h.row hb, fun i hi => (h.bits i hi).beneath hb⟩
theorem Comes.base {w : World} {lo : Nat} {v : Value} {E : Nat → Nat → Prop} {n : Nat} {gs : List Nat} (h : Comes w lo v E n gs) : ∀ k, v.ownBlock = some k → lo ≤ k := own_base h.row
theorem Comes.push {w w' : World} {lo g : Nat} {v v' : Value} {E : Nat → Nat → Prop} {n : Nat} {gs : List Nat} (h : Comes w lo v E n gs) (hg : BBlk w g (comeL E n gs.length))
    (h1 : w'.ownsRow lo 29 1 v' (gs.length + 1) ((gs.map fun g => .slice (some ⟨g, 0, none⟩) n n) ++ [Value.slice (some ⟨g, 0, none⟩) n n])) (h2 : w.grownBy w' v.ownBlock) : Comes w' lo v' E n (gs ++ [g]) := by
  refine ⟨by rw [List.length_append, List.map_append]; exact h1, fun i hi => ?_⟩
  have hk : ∀ {g : Nat} {bs : List Bool}, BBlk w g bs → BBlk w' g bs := fun hb => Blk.grown hb h2 (own_ne h.row hb (by decide))
  rw [List.length_append, List.length_singleton] at hi
  by_cases e : i < gs.length
  · rw [List.getD_eq_getElem?_getD, List.getElem?_append_left e, ← List.getD_eq_getElem?_getD]
    exact hk (h.bits i e)
  · obtain rfl : i = gs.length := by omega
    rw [List.getD_eq_getElem?_getD, List.getElem?_append_right (Nat.le_refl _), Nat.sub_self]
    exact hk hg
/-- All of them, to be read. -/
structure ComesAt (w : World) (A : Option Addr) (c : Nat) (E : Nat → Nat → Prop) (n : Nat) (gs : List Nat) : Prop where
  hdr : Hdr A n c
  len : gs.length = n
  cells : CellsAt w 0 w.heap.size A 1 n fun i _ => .slice (some ⟨gs.getD i 0, 0, none⟩) n n
  bits : ∀ i, i < n → BBlk w (gs.getD i 0) (comeL E n i)
theorem Comes.full {w : World} {lo : Nat} {v : Value} {E : Nat → Nat → Prop} {n : Nat} {gs : List Nat} (h : Comes w lo v E n gs) (hl : gs.length = n) : ∃ A c, v = .slice A n c ∧ ComesAt w A c E n gs := by
  obtain ⟨A, c, hv, hle, hcap, hnil, hc⟩ := ownsRow_form h.row (by omega)
  subst hl
  refine ⟨A, c, hv, ⟨hle, hcap, hnil⟩, rfl, (hc.more (Nat.zero_le _) (Nat.le_refl _)).congr fun i hi j hj => ?_, h.bits⟩
  obtain rfl : j = 0 := by omega
  simp [List.getD, List.getElem?_eq_getElem hi]
theorem ComesAt.on {w w' : World} {A : Option Addr} {c : Nat} {E : Nat → Nat → Prop} {n : Nat} {gs : List Nat} (h : ComesAt w A c E n gs) (hb : Below w.heap.size w w') : ComesAt w' A c E n gs :=
  ⟨h.hdr, h.len, (h.cells.keep hb).more (Nat.le_refl _) hb.size, fun i hi => (h.bits i hi).beneath hb⟩
theorem ComesAt.elem {w : World} {A : Option Addr} {c : Nat} {E : Nat → Nat → Prop} {n : Nat} {gs : List Nat} (h : ComesAt w A c E n gs) {i : Nat} (hi : i < n) :
    ∃ b off g, A = some ⟨b, off, none⟩ ∧ w.cell? ⟨b, off + i, none⟩ = some (.slice (some ⟨g, 0, none⟩) n n) ∧ BBlk w g (comeL E n i) := by
  obtain ⟨b, off, rfl, h1, h2, hc⟩ := h.cells (by omega)
  have c0 := hc i hi 0 (by omega)
  rw [Nat.mul_one, Nat.add_zero] at c0
  exact ⟨b, off, _, rfl, c0, h.bits i hi⟩
/-- An answer that is all of them. -/
def SomeComes (E : Nat → Nat → Prop) (n : Nat) (w : World) (e : Ending) (w' : World) : Prop := ∃ A c gs, e = .returned (.slice A n c) ∧ ComesAt w' A c E n gs ∧ Below w.heap.size w w'
set_option maxRecDepth 100000 in
theorem wpList_appBs {w : World} {ops : Array Oper} {rest : List Oper} {o : Oper} {a : Act} {Q : Exit → Act → World → Prop} (hgd : o.guard = none) (s x : Operand)
    (ho : o.op = .call { callee := .builtin .append, args := #[s, x], argTypes := #[51, 51] })
    (lo : Nat) (v : Value) (E : Nat → Nat → Prop) (n : Nat) (gs : List Nat) (hs : a.eval s = v) (g : Nat) (hown : Comes w lo v E n gs) (hg : BBlk w g (comeL E n gs.length)) (hx : a.eval x = .slice (some ⟨w.heap.size, 0, none⟩) 1 1) (hlen : gs.length ≤ 1000000) (hlo : lo ≤ w.heap.size)
    (h : ∀ v' w', Comes w' lo v' E n (gs ++ [g]) → (w.alloc (.cells #[.slice (some ⟨g, 0, none⟩) n n] 29)).grownBy w' v.ownBlock → wpList Try.prog ops Q rest (a.put o.dst v') w') : wpList Try.prog ops Q (o :: rest) a (w.alloc (.cells #[.slice (some ⟨g, 0, none⟩) n n] 29)) := by
  obtain ⟨i0, hi, hz0, hz1, hz2⟩ := info_parts boolsInfo
  refine wpList_appS hgd s x 51 29 ho i0 _ 1 24 Try.underlying51 hi hz0 hz1 hz2 rfl (by decide) lo v gs.length _ hs hown.row _ hx rfl ?_ hlen (by decide) hlo ?_
  · intro u hu
    simp at hu
    subst hu
    rfl
  · intro v' w' h1 h2
    exact h v' w' (Comes.push (hown.keep ((Below.refl _ _).alloc (Nat.le_refl _) _)) (hg.alloc _) h1 h2) h2
set_option maxHeartbeats 800000 in
theorem all_any {w : World} {A : Option Addr} {c : Nat} {l : List (Int × Int)} {n : Nat} (hx : GIn w A c l) (hn : n ≤ 1000) (hok : okG n l) :
    Calls Try.prog 26 #[.int .i64 n, .slice A l.length c] w (SomeComes (Arr l) n w) := by
  have HX := Lib.hid hx
  have HOK := Lib.hid hok
  clear hx hok
  go_enter Try.func26, Try.ntmps26
  go_wp2_with fail
  go_loopw [5, 6] (fun v i wr => ∃ gs : List Nat, gs.length ≤ n ∧ i = .int .i64 gs.length ∧ Comes wr w.heap.size v (Arr l) n gs ∧ Below w.heap.size w wr) (fun _ i _ => n - (intOf i).toNat)
  case atStart => exact ⟨[], Nat.zero_le _, rfl, Comes.nil _ _ _ _, Below.refl _ _⟩
  case round =>
    obtain ⟨gs, hk, rfl, hcs, hbel⟩ := hrel
    have HC := Lib.hid hcs
    have HB := Lib.hid hbel
    clear hcs hbel
    by_cases hlt : gs.length < n
    · have HCM := Lib.hid (come_any (HX.out.on HB.out) hn HOK.out hlt)
      go_wp2_with fail
      refine HCM.out.mono ?_
      rintro e w1 ⟨rfl, hbb, hb1⟩
      rw [comeL_len]
      have HBB := Lib.hid hbb
      have HB1 := Lib.hid (HB.out.trans (hb1.mono HB.out.size))
      have HC1 := Lib.hid (HC.out.keep hb1)
      clear hbb hb1
      go_wp2_with (at_builtin; refine wpList_appBs rfl (.tmp 12) (.tmp 17) rfl w.heap.size _ (Arr l) n gs rfl wr.heap.size HC1.out HBB.out rfl (by omega) HB1.out.size ?_; intro v' w3 hown3 hg3; refine pause ?_)
      have HB3 := Lib.hid ((HB1.out.alloc HB1.out.size (.cells #[.slice (some ⟨wr.heap.size, 0, none⟩) n n] 29)).grown hg3 (by rw [World.size_alloc]; have := HB1.out.size; omega) HC1.out.base)
      have HO3 := Lib.hid hown3
      clear hown3 hg3
      refine resume ?_
      go_wp2_with fail
      go_roundw
      case rel => exact ⟨gs ++ [wr.heap.size], by rw [List.length_append, List.length_singleton]; omega, by rw [List.length_append, List.length_singleton]; go_num, HO3.out, HB3.out⟩
      case measure => simp [intOf]; omega
    · have hl : gs.length = n := by omega
      obtain ⟨A', c', hv, hat⟩ := HC.out.full hl
      have HAT := Lib.hid hat
      subst hv
      clear hat
      go_wp2_with fail
      go_ret
      exact ⟨A', c', gs, rfl, HAT.out, HB.out⟩
/-- Head. -/
theorem head_any {w : World} {A : Option Addr} {c : Nat} {E : Nat → Nat → Prop} {n a : Nat} {gs : List Nat} (hx : ComesAt w A c E n gs) (hn : n ≤ 1000) (ha : a < n) :
    Calls Try.prog 27 #[.slice A n c, .int .i64 a] w fun e w' => e = .returned (.int .i64 (headN E a)) ∧ w = w' := by
  obtain ⟨b, off, ga, rfl, hca, hba⟩ := hx.elem ha
  have HX := Lib.hid hx
  have HBA := Lib.hid hba
  clear hx hba
  go_enter Try.func27, Try.ntmps27
  go_wp2_with fail
  go_loopw [5] (fun i wr => ∃ k : Nat, k ≤ a ∧ i = .int .i64 k ∧ Hid (∀ b < k, ¬ (wayB E a b = true ∧ wayB E b a = true)) ∧ w = wr) (fun i _ => a - (intOf i).toNat)
  case atStart => exact ⟨0, Nat.zero_le _, rfl, Lib.hid (fun b hb => by omega), rfl⟩
  case round =>
    obtain ⟨k, hk, rfl, HN, rfl⟩ := hrel
    by_cases hlt : k < a
    · obtain ⟨b', off', gk, hA, hck, hbk⟩ := HX.out.elem (i := k) (by omega)
      injection hA with hA
      injection hA with h1 h2 _
      subst h1 h2
      have ca := HBA.out.at_ (i := k) (by rw [comeL_len]; omega)
      have cb := hbk.at_ (i := a) (by rw [comeL_len]; omega)
      rw [comeL_at _ (by omega)] at ca cb
      clear hbk
      obtain ⟨p, hp⟩ : ∃ p, wayB E a k = p := ⟨_, rfl⟩
      obtain ⟨q, hq⟩ : ∃ q, wayB E k a = q := ⟨_, rfl⟩
      rw [hp] at ca
      rw [hq] at cb
      have HP := Lib.hid hp
      have HQ := Lib.hid hq
      clear hp hq
      have HN2 : Hid (¬ (p = true ∧ q = true) → ∀ b < k + 1, ¬ (wayB E a b = true ∧ wayB E b a = true)) := Lib.hid (fun h b hb => by
        by_cases e : b = k
        · subst e; rw [HP.out, HQ.out]; exact h
        · exact HN.out b (by omega))
      have hkn : k < n := by omega
      cases p with
      | false =>
        go_wp2_with fail
        go_roundw
        case rel => exact ⟨k + 1, by omega, by go_num, Lib.hid (HN2.out (fun h => by cases h.1)), trivial⟩
        case measure => simp [intOf]; omega
      | true =>
        cases q with
        | false =>
          go_wp2_with fail
          go_roundw
          case rel => exact ⟨k + 1, by omega, by go_num, Lib.hid (HN2.out (fun h => by cases h.2)), trivial⟩
          case measure => simp [intOf]; omega
        | true =>
          have HH := Lib.hid (head_first HP.out HQ.out HN.out)
          go_wp2_with fail
          go_ret
          exact ⟨ret_num (by rw [HH.out]), rfl⟩
    · have hka : k = a := by omega
      have HH : Hid (headN E a = a) := Lib.hid (head_first (wayB_iff.2 (Way.refl a)) (wayB_iff.2 (Way.refl a)) (hka ▸ HN.out))
      clear hka
      go_wp2_with fail
      go_ret
      exact ⟨ret_num (by rw [HH.out]), rfl⟩
/-- An answer that is a list of its own, and a number. -/
def SomeIntsE (xs : List Int) (code : Int) (w : World) (e : Ending) (w' : World) : Prop := ∃ v, e = .returned (.tuple #[v, .int .i64 code]) ∧ OwnInts w' w.heap.size v xs ∧ Below w.heap.size w w'
noncomputable def headsG (n : Int) (l : List (Int × Int)) : List Int := if checkG n l = 0 then nI (headsL (Arr l) n.toNat) else []
theorem headsL_snoc (E : Nat → Nat → Prop) (k : Nat) : headsL E (k + 1) = headsL E k ++ [headN E k] := by simp [headsL, List.range_succ]
theorem headsL_len (E : Nat → Nat → Prop) (k : Nat) : (headsL E k).length = k := by simp [headsL]
theorem headsL_at (E : Nat → Nat → Prop) {n a : Nat} (ha : a < n) : (headsL E n).getD a 0 = headN E a := by simp [headsL, List.getD_eq_getElem?_getD, ha]
set_option maxHeartbeats 800000 in
theorem rheads_any {w : World} {A : Option Addr} {c : Nat} {l : List (Int × Int)} (hx : GIn w A c l) (n : Int) :
    Calls Try.prog 15 #[.int .i64 n, .slice A l.length c] w (SomeIntsE (headsG n l) (checkG n l) w) := by
  have HX := Lib.hid hx
  clear hx
  obtain ⟨e0, he0⟩ : ∃ e0, checkG n l = e0 := ⟨_, rfl⟩
  have HE := Lib.hid he0
  have HC := Lib.hid (rcheck_any HX.out n)
  rw [he0] at HC ⊢
  by_cases h0 : e0 = 0
  · subst h0
    obtain ⟨hn0, hn, hl, hok⟩ := check_ok he0
    obtain ⟨m, rfl⟩ := Int.eq_ofNat_of_zero_le hn0
    rw [Int.toNat_natCast] at hok
    have HG : Hid (headsG (m : Int) l = nI (headsL (Arr l) m)) := Lib.hid (by unfold headsG; rw [if_pos he0, Int.toNat_natCast])
    have HOK := Lib.hid hok
    have hm : m ≤ 1000 := by omega
    clear he0 hok
    go_enter Try.func15, Try.ntmps15
    go_wp2_with fail
    refine HC.out.mono ?_
    rintro e w1 ⟨rfl, hb1⟩
    have HB1 := Lib.hid hb1
    have HA := Lib.hid (all_any (HX.out.on hb1) hm HOK.out)
    clear hb1
    go_wp2_with fail
    refine HA.out.mono ?_
    rintro e w2 ⟨A2, c2, gs, rfl, hat, hb2⟩
    have HAT := Lib.hid hat
    have HB2 := Lib.hid (HB1.out.trans (hb2.mono HB1.out.size))
    clear hat hb2
    go_wp2_with fail
    go_loopw [8, 9] (fun v i wr => ∃ k : Nat, k ≤ m ∧ i = .int .i64 k ∧ OwnInts wr w2.heap.size v (nI (headsL (Arr l) k)) ∧ Below w2.heap.size w2 wr) (fun _ i _ => m - (intOf i).toNat)
    case atStart => exact ⟨0, Nat.zero_le _, rfl, OwnInts.nil _ _, Below.refl _ _⟩
    case round =>
      obtain ⟨k, hk, rfl, hown, hb2r⟩ := hrel
      have HO := Lib.hid hown
      have HR := Lib.hid hb2r
      clear hown hb2r
      by_cases hlt : k < m
      · have HH := Lib.hid (head_any (HAT.out.on HR.out) hm hlt)
        go_wp2_with fail
        refine HH.out.mono ?_
        rintro e w3 ⟨rfl, rfl⟩
        go_wp2_with (at_builtin; refine wpList_app1 rfl (.tmp 24) (.tmp 28) rfl w2.heap.size _ _ rfl _ HO.out rfl (by rw [nI_len, headsL_len]; omega) HR.out.size ?_; intro v' w4 hown4 hg4; refine pause ?_)
        have HB4 := Lib.hid ((HR.out.alloc HR.out.size (.cells #[.int .i64 (headN (Arr l) k)] 3)).grown hg4 (by rw [World.size_alloc]; have := HR.out.size; omega) HO.out.base)
        have HO4 := Lib.hid hown4
        clear hown4 hg4
        refine resume ?_
        go_wp2_with fail
        go_roundw
        case rel => exact ⟨k + 1, by omega, by go_num, by rw [headsL_snoc, nI_app]; exact HO4.out, HB4.out⟩
        case measure => simp [intOf]; omega
      · have hkm : k = m := by omega
        have HO2 := Lib.hid (HO.out.more HB2.out.size)
        have HB := Lib.hid (HB2.out.trans (HR.out.mono HB2.out.size))
        subst hkm
        go_wp2_with fail
        go_ret2
        exact ⟨_, rfl, by rw [HG.out]; exact HO2.out, HB.out⟩
  · have HG : Hid (headsG n l = []) := Lib.hid (by unfold headsG; rw [if_neg (by rw [he0]; exact h0)])
    have hne : (e0 == 0) = false := by simpa using h0
    have hne2 : (e0 != 0) = true := by simpa using h0
    clear he0
    go_enter Try.func15, Try.ntmps15
    go_wp2_with fail
    refine HC.out.mono ?_
    rintro e w1 ⟨rfl, hb1⟩
    have HB1 := Lib.hid hb1
    clear hb1
    go_wp2_with fail
    go_ret2
    exact ⟨_, rfl, by rw [HG.out]; exact OwnInts.nil _ _, HB1.out⟩
end Go.Proofs.Ytohoihicmmidmaa
