/-
  The reference's New.
-/
import Derived.Test.YthddacnnhmcoaaaMmNew4
import Derived.Test.YthddacnnhmcoaaaMmNew2
namespace Go.Proofs.Ythddacnnhmcoaaa
set_option linter.unusedVariables false
set_option linter.unusedSimpArgs false
open Go.ChangeShapes Go.WideShapes Go.ChangeAt Go.RowKit

/-- What New answers: a memory, a pointer, an error. -/
def NewOf (m : List Bk) (p : Vl) (er : Int) (w : World) (e : Ending) (w' : World) : Prop := ∃ v rows, e = .returned (.tuple #[v, valV p.k p.n p.b p.t, .int .i64 er]) ∧ OwnBl w' w.heap.size v rows ∧ mmb rows = m ∧ Below w.heap.size w w'
theorem NewOf.none {w w' : World} {er : Int} (hb : Below w.heap.size w w') : NewOf [] default er w (.returned (.tuple #[.slice none 0 0, valV 0 0 0 0, .int .i64 er])) w' := ⟨_, [], rfl, OwnBl.nil _ _, rfl, hb⟩
theorem Kept.put4 {lo : Nat} {w w' : World} (h : Kept lo w w') {g : Nat} (hg : g < lo) (a0 a1 a2 a3 : Value) : Kept lo w ((((w'.setCell ⟨g, 0, none⟩ a0).setCell ⟨g, 1, none⟩ a1).setCell ⟨g, 2, none⟩ a2).setCell ⟨g, 3, none⟩ a3) :=
  (((h.put (p := ⟨g, 0, none⟩) hg a0).put (p := ⟨g, 1, none⟩) hg a1).put (p := ⟨g, 2, none⟩) hg a2).put (p := ⟨g, 3, none⟩) hg a3
theorem new_not {m : List Bk} {s k d : Int} {l : List Int} {e : Int} (h : newE m s k d l = e) (he : e ≠ 0) : newM m s k d l = [] ∧ newP m s k d l = default := by
  unfold newM newP
  rw [h, if_neg he, if_neg he]
  exact ⟨rfl, rfl⟩
theorem new_yes {m : List Bk} {s k d : Int} {l : List Int} (h : newE m s k d l = 0) : newM m s k d l = m ++ [newB s k d l] ∧ newP m s k d l = ⟨2, 0, m.length + 1, 0⟩ := by
  unfold newM newP
  rw [if_pos h, if_pos h]
  exact ⟨rfl, rfl⟩
set_option maxHeartbeats 1600000 in
theorem rnew_any {w : World} {A : Option Addr} {c : Nat} {rows : List BkR} (h : MemFew w A c rows) {Ak : Option Addr} {ck : Nat} {l : List Int} (hk : KindsAt w Ak ck l) (hl : l.length ≤ 1000) (si ki de : Int) {e0 : Int} {m0 : List Bk} {p0 : Vl}
    (he : newE (mmb rows) si ki de l = e0) (hm : newM (mmb rows) si ki de l = m0) (hp : newP (mmb rows) si ki de l = p0) :
    Calls Try.prog 14 #[.slice A rows.length c, .int .i64 si, .int .i64 ki, .int .i64 de, .slice Ak l.length ck] w (NewOf m0 p0 e0 w) := by
  have hlen := h.few
  have hb0 : Below w.heap.size w (w.alloc (.cells #[.int .u8 0, .int .i64 0, .int .i64 0, .int .i64 0] 29)) := (Below.refl _ _).alloc (Nat.le_refl _) _
  have HB0 := Lib.hid hb0
  have HX := Lib.hid (h.on hb0)
  have HKI := Lib.hid (hk.on hb0)
  have HR := Lib.hid (Blk.new w 29 #[.int .u8 0, .int .i64 0, .int .i64 0, .int .i64 0])
  obtain ⟨mb, hmb⟩ : ∃ mb, mayM (mmb rows) = mb := ⟨_, rfl⟩
  have HM := Lib.hid hmb
  have HC := Lib.hid (rmaym_is HX.out.mem HM.out)
  have hE := he
  unfold newE at he
  rw [hmb] at he
  clear h hk hb0 hmb
  cases mb with
  | false =>
    rw [if_pos rfl] at he
    subst he
    obtain ⟨h1, h2⟩ := new_not hE (by decide)
    obtain rfl := hm.symm.trans h1
    obtain rfl := hp.symm.trans h2
    clear hE hm hp h1 h2
    go_enter Try.func14, Try.ntmps14
    go_wp2_with fail
    refine HC.out.mono ?_
    rintro e w1 ⟨rfl, hb⟩
    have rb := HR.out.beneath hb
    have hz := rb.lt
    have r0 := rb.cells 0
    have r1 := rb.cells 1
    have r2 := rb.cells 2
    have r3 := rb.cells 3
    have rf := rb.free
    have HB1 := Lib.hid (HB0.out.trans (hb.mono HB0.out.size))
    have PB := Lib.hid (put4 rb (.int .u8 0) (.int .i64 0) (.int .i64 0) (.int .i64 0))
    clear hb rb
    go_wp2_with fail
    have q0 := PB.out.cells 0
    have q1 := PB.out.cells 1
    have q2 := PB.out.cells 2
    have q3 := PB.out.cells 3
    exact bodyPost_ret (v := .tuple #[.slice none 0 0, valV 0 0 0 0, .int .i64 8]) (by simp [results, Try.results14, go_sem, q0, q1, q2, q3]) rfl (NewOf.none (below4 (k := 0) HB1.out))
  | true =>
    rw [if_neg (by decide)] at he
    have hbig : ¬ (4096 ≤ (mmb rows).length) := by rw [mmb_len]; omega
    rw [if_neg hbig] at he
    have HF : Hid (∀ W, Below (w.alloc (.cells #[.int .u8 0, .int .i64 0, .int .i64 0, .int .i64 0] 29)).heap.size (w.alloc (.cells #[.int .u8 0, .int .i64 0, .int .i64 0, .int .i64 0] 29)) W → Calls Try.prog 39 #[.slice Ak l.length ck] W (FirstsOf l W)) := Lib.hid fun W hb => rfirsts_any (HKI.out.on hb) (by omega)
    have hcase : l.all kindOk = false ∨ (l.all kindOk = true ∧ (si < 0 ∨ (¬ si < 0 ∧ (ki < 0 ∨ (¬ ki < 0 ∧ (de < 0 ∨ (¬ de < 0 ∧ ((l.length : Int) < 1 ∨ (¬ (l.length : Int) < 1 ∧ (32 < (l.length : Int) ∨ ¬ 32 < (l.length : Int))))))))))) := by
      cases l.all kindOk
      · exact .inl rfl
      · right; refine ⟨rfl, ?_⟩; omega
    obtain ⟨ok, hok⟩ : ∃ ok, l.all kindOk = ok := ⟨_, rfl⟩
    rw [hok] at hcase he
    rcases hcase with rfl | ⟨rfl, hs | ⟨hs, hq | ⟨hq, hd | ⟨hd, hl1 | ⟨hl1, hl2 | hl2⟩⟩⟩⟩⟩
    rotate_right
    · have hn : ¬ (true = false ∨ si < 0 ∨ ki < 0 ∨ de < 0 ∨ l.length < 1 ∨ 32 < l.length) := by
        rintro (h | h)
        · cases h
        · omega
      rw [if_neg hn] at he
      subst he
      obtain ⟨h1, h2⟩ := new_yes hE
      obtain rfl := hm.symm.trans h1
      obtain rfl := hp.symm.trans h2
      have HOK := Lib.hid hok
      clear hE hm hp h1 h2 hok hn
      go_enter Try.func14, Try.ntmps14
      go_wp2_with fail
      refine HC.out.mono ?_
      rintro e w1 ⟨rfl, hb⟩
      have HR1 := Lib.hid (HR.out.beneath hb)
      have HB1 := Lib.hid (HB0.out.trans (hb.mono HB0.out.size))
      have HC2 := Lib.hid (HF.out w1 hb)
      have hs1 : w.heap.size + 1 ≤ w1.heap.size := by have := hb.size; rwa [World.size_alloc] at this
      have HX1 := Lib.hid (HX.out.on hb)
      clear hb
      go_wp2_with fail
      refine HC2.out.mono ?_
      unfold FirstsOf
      rw [HOK.out]
      rintro e w2 ⟨v1, rfl, hv, hb⟩
      have HB2 := Lib.hid (HB1.out.trans (hb.mono HB1.out.size))
      have hown := hv rfl
      obtain ⟨A1, c1, rfl, hh, hvals, hfr⟩ := hown.form
      have HR2 := Lib.hid (HR1.out.beneath hb)
      have HMADE := Lib.hid (rmade_any (lo := w.heap.size + 1) (HX1.out.on hb) ⟨si, ki, de, true, A1, c1, l.map firstV⟩ ⟨hh, hvals.more (Nat.zero_le _) (Nat.le_refl _)⟩ (fun hn => by
        obtain ⟨b, o, e1, e2, e3⟩ := hfr hn
        exact ⟨b, o, e1, Nat.le_trans hs1 e2, e3⟩) (Nat.le_trans hs1 hb.size))
      clear hb hv hown hh hvals hfr
      dsimp only at HMADE
      rw [List.length_map] at HMADE
      rw [List.length_map]
      go_wp2_with fail
      refine HMADE.out.mono ?_
      rintro e w3 ⟨v3, rows3, rfl, hown3, hm3, hb⟩
      have rb := HR2.out.beneath hb
      have hz := rb.lt
      have r0 := rb.cells 0
      have r1 := rb.cells 1
      have r2 := rb.cells 2
      have r3 := rb.cells 3
      have rf := rb.free
      have HB3 := Lib.hid (HB2.out.trans (hb.mono HB2.out.size))
      have PB := Lib.hid (put4 rb (.int .u8 2) (.int .i64 0) (.int .i64 ((rows.length : Int) + 1)) (.int .i64 0))
      have HO3 := Lib.hid hown3
      have HM3 := Lib.hid hm3
      clear hb rb hown3 hm3
      go_wp2_with fail
      go_region
      go_wp2_with fail
      have q0 := ((PB.out.alloc (.cells #[.int .u8 2, .int .i64 0, .int .i64 ((rows.length : Int) + 1), .int .i64 0] 29)).drew).cells 0
      have q1 := ((PB.out.alloc (.cells #[.int .u8 2, .int .i64 0, .int .i64 ((rows.length : Int) + 1), .int .i64 0] 29)).drew).cells 1
      have q2 := ((PB.out.alloc (.cells #[.int .u8 2, .int .i64 0, .int .i64 ((rows.length : Int) + 1), .int .i64 0] 29)).drew).cells 2
      have q3 := ((PB.out.alloc (.cells #[.int .u8 2, .int .i64 0, .int .i64 ((rows.length : Int) + 1), .int .i64 0] 29)).drew).cells 3
      refine bodyPost_ret (v := .tuple #[v3, valV 2 0 (rows.length + 1) 0, .int .i64 0]) (by simp [results, Try.results14, go_sem, q0, q1, q2, q3]) rfl ⟨v3, rows3, by rw [mmb_len], ?_, by rw [HM3.out]; rfl, ?_⟩
      · have hk4 := (((Kept.refl (w.heap.size + 1) w3).put4 (Nat.lt_succ_self w.heap.size) (.int .u8 2) (.int .i64 0) (.int .i64 ((rows.length : Int) + 1)) (.int .i64 0)).alloc (.cells #[.int .u8 2, .int .i64 0, .int .i64 ((rows.length : Int) + 1), .int .i64 0] 29)).drew
        exact (HO3.out.kept hk4).more (Nat.le_succ _)
      · have hbe := below4 (k := 0) (v0 := .int .u8 2) (v1 := .int .i64 0) (v2 := .int .i64 ((rows.length : Int) + 1)) (v3 := .int .i64 0) HB3.out
        exact (hbe.alloc hbe.size _).drew
    all_goals
      rw [if_pos (by first | exact .inl rfl | omega)] at he
      subst he
      obtain ⟨h1, h2⟩ := new_not hE (by decide)
      obtain rfl := hm.symm.trans h1
      obtain rfl := hp.symm.trans h2
      have HOK := Lib.hid hok
      clear hE hm hp h1 h2 hok
      go_enter Try.func14, Try.ntmps14
      go_wp2_with fail
      refine HC.out.mono ?_
      rintro e w1 ⟨rfl, hb⟩
      have HR1 := Lib.hid (HR.out.beneath hb)
      have HB1 := Lib.hid (HB0.out.trans (hb.mono HB0.out.size))
      have HC2 := Lib.hid (HF.out w1 hb)
      clear hb
      go_wp2_with fail
      refine HC2.out.mono ?_
      unfold FirstsOf
      rw [HOK.out]
      rintro e w2 ⟨v1, rfl, _, hb⟩
      have rb := HR1.out.beneath hb
      have hz := rb.lt
      have r0 := rb.cells 0
      have r1 := rb.cells 1
      have r2 := rb.cells 2
      have r3 := rb.cells 3
      have rf := rb.free
      have HB2 := Lib.hid (HB1.out.trans (hb.mono HB1.out.size))
      have PB := Lib.hid (put4 rb (.int .u8 0) (.int .i64 0) (.int .i64 0) (.int .i64 0))
      clear hb rb
      go_wp2_with fail
      have q0 := PB.out.cells 0
      have q1 := PB.out.cells 1
      have q2 := PB.out.cells 2
      have q3 := PB.out.cells 3
      exact bodyPost_ret (v := .tuple #[.slice none 0 0, valV 0 0 0 0, .int .i64 2]) (by simp [results, Try.results14, go_sem, q0, q1, q2, q3]) rfl (NewOf.none (below4 (k := 0) HB2.out))
end Go.Proofs.Ythddacnnhmcoaaa
