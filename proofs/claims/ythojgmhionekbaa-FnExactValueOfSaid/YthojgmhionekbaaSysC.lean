/-
  CONTRACTS: strings.Compare, slices.BinarySearchFunc at rows, findRow (package impl), l05Find (package spec); the order of texts. Conditions: what the slices hold.
-/
import Derived.Test.YthojgmhionekbaaSysA
import Derived.Test.YthojgmhionekbaaLinV
import Derived.Shelf.Small.Strs
namespace Go.Proofs.Ythojgmhionekbaa
open Go.RowKit Go.Sort
set_option linter.unusedVariables false
attribute [local go_sem] cell_grow frozen_grow
theorem cb_less : ∀ x y : List UInt8, (Go.Lib.compareBytes x y < 0) ↔ Go.Op.bytesLess x y = true
  | [], [] => by simp [Go.Lib.compareBytes, Go.Op.bytesLess]
  | [], b :: y => by simp [Go.Lib.compareBytes, Go.Op.bytesLess]
  | a :: x, [] => by simp [Go.Lib.compareBytes, Go.Op.bytesLess]
  | a :: x, b :: y => by
    have ih := cb_less x y
    unfold Go.Lib.compareBytes Go.Op.bytesLess
    by_cases h1 : a < b
    · simp [h1]
    · by_cases h2 : b < a
      · have h3 : ¬ a = b := by intro h; rw [h] at h2; exact UInt8.lt_irrefl _ h2
        simp [h1, h2, h3]
      · have h3 : a = b := by
          apply UInt8.toNat_inj.mp
          have e1 : ¬ a.toNat < b.toNat := h1
          have e2 : ¬ b.toNat < a.toNat := h2
          omega
        subst h3
        simp [h1]
        exact ih
theorem cb_eq : ∀ x y : List UInt8, Go.Lib.compareBytes x y = 0 ↔ x = y
  | [], [] => by simp [Go.Lib.compareBytes]
  | [], b :: y => by simp [Go.Lib.compareBytes]
  | a :: x, [] => by simp [Go.Lib.compareBytes]
  | a :: x, b :: y => by
    have ih := cb_eq x y
    unfold Go.Lib.compareBytes
    by_cases h1 : a < b
    · have h3 : ¬ a = b := by intro h; rw [h] at h1; exact UInt8.lt_irrefl _ h1
      simp [h1, h3]
    · by_cases h2 : b < a
      · have h3 : ¬ a = b := by intro h; rw [h] at h2; exact UInt8.lt_irrefl _ h2
        simp [h1, h2, h3]
      · have h3 : a = b := by
          apply UInt8.toNat_inj.mp
          have e1 : ¬ a.toNat < b.toNat := h1
          have e2 : ¬ b.toNat < a.toNat := h2
          omega
        subst h3
        simp [h1]
        exact ih
theorem bl_irrefl : ∀ x : List UInt8, Go.Op.bytesLess x x = false
  | [] => rfl
  | a :: x => by
    have ih := bl_irrefl x
    unfold Go.Op.bytesLess
    simp [ih]
theorem bl_trans : ∀ x y z : List UInt8, Go.Op.bytesLess x y = true → Go.Op.bytesLess y z = true → Go.Op.bytesLess x z = true
  | [], [], _ => by simp [Go.Op.bytesLess]
  | [], b :: y, [] => by simp [Go.Op.bytesLess]
  | [], b :: y, c :: z => by simp [Go.Op.bytesLess]
  | a :: x, [], _ => by simp [Go.Op.bytesLess]
  | a :: x, b :: y, [] => by simp [Go.Op.bytesLess]
  | a :: x, b :: y, c :: z => by
    have ih := bl_trans x y z
    unfold Go.Op.bytesLess
    simp only [Bool.or_eq_true, decide_eq_true_eq, Bool.and_eq_true, beq_iff_eq]
    rintro (h1 | ⟨rfl, h1⟩) (h2 | ⟨rfl, h2⟩)
    · exact .inl (UInt8.lt_trans h1 h2)
    · exact .inl h1
    · exact .inl h2
    · exact .inr ⟨rfl, ih h1 h2⟩
/-- the sign of two texts -/
def cmpS (a b : ByteArray) : Int := Go.Lib.compareBytes a.data.toList b.data.toList
theorem cmpS_less (a b : ByteArray) : (cmpS a b < 0) ↔ lessB a b = true := by
  unfold cmpS lessB
  rw [ByteArray.toList_eq, ByteArray.toList_eq]
  exact cb_less _ _
theorem cmpS_eq (a b : ByteArray) : cmpS a b = 0 ↔ a = b := by
  unfold cmpS
  rw [cb_eq]
  constructor
  · intro h
    obtain ⟨⟨l⟩⟩ := a
    obtain ⟨⟨m⟩⟩ := b
    simp at h
    rw [h]
  · rintro rfl; rfl
theorem lessB_trans {a b c : ByteArray} (h1 : lessB a b = true) (h2 : lessB b c = true) : lessB a c = true := bl_trans _ _ _ h1 h2
theorem lessB_ne {a b : ByteArray} (h : lessB a b = true) : ¬ a = b := by
  rintro rfl
  unfold lessB at h
  rw [bl_irrefl] at h
  cases h
/-- the first row of a name; -1 -/
def fdN (R : List R4) (s : ByteArray) : Nat → Int
  | 0 => -1
  | k + 1 => if 0 ≤ fdN R s k then fdN R s k else if (R.getD k r4d).1 = s then (k : Int) else -1
def fdR (R : List R4) (s : ByteArray) : Int := fdN R s R.length
theorem fdN_none {R : List R4} {s : ByteArray} : ∀ {n : Nat}, (∀ j, j < n → ¬ (R.getD j r4d).1 = s) → fdN R s n = -1
  | 0, _ => rfl
  | n + 1, h => by
    have ih := fdN_none (n := n) (fun j hj => h j (by omega))
    rw [fdN, ih, if_neg (by omega), if_neg (h n (by omega))]
theorem fdN_hit {R : List R4} {s : ByteArray} {k : Nat} (h0 : ∀ j, j < k → ¬ (R.getD j r4d).1 = s) (h : (R.getD k r4d).1 = s) : ∀ n, k < n → fdN R s n = k := by
  intro n hn
  obtain ⟨m, rfl⟩ : ∃ m, n = k + 1 + m := ⟨n - (k + 1), by omega⟩
  clear hn
  induction m with
  | zero => rw [Nat.add_zero, fdN, fdN_none h0, if_neg (by omega), if_pos h]
  | succ m ih => rw [← Nat.add_assoc, fdN, ih, if_pos (by omega)]
theorem fdR_none {R : List R4} {s : ByteArray} (h : ∀ j, j < R.length → ¬ (R.getD j r4d).1 = s) : fdR R s = -1 := fdN_none h
theorem fdR_hit {R : List R4} {s : ByteArray} {k : Nat} (hk : k < R.length) (h0 : ∀ j, j < k → ¬ (R.getD j r4d).1 = s) (h : (R.getD k r4d).1 = s) : fdR R s = k := fdN_hit h0 h _ hk
/-- rows in rising order -/
def Rises (R : List R4) : Prop := ∀ i j, i < j → j < R.length → lessB (R.getD i r4d).1 (R.getD j r4d).1 = true
def cmp106_ren : Go.Shelf.Ren := ⟨fun | 106 => 79 | 213 => 88 | 265 => 92 | n => n, fun | 9 => 9 | 3 => 3 | n => n, fun | n => n⟩
theorem cmp106 : Go.Proofs.Lays.n106 Try.prog cmp106_ren := {
  mixed := by kernel_rfl
  f106 := Try.func79.trans (congrArg some (by kernel_rfl))
  f213 := Try.func88.trans (congrArg some (by kernel_rfl))
  f265 := Try.func92.trans (congrArg some (by kernel_rfl))
  t3 := Try.underlying3
  a3 := Try.isAgg3
  z3 := Try.sizeOf3
  v3 := Try.zeroValue3
  t9 := Try.underlying9
  a9 := Try.isAgg9
  z9 := Try.sizeOf9
  v9 := Try.zeroValue9 }
theorem compare_any (a b : ByteArray) (w : World) : Calls Try.prog 79 #[.string a, .string b] w fun e w' => e = .returned (.int .i64 (cmpS a b)) ∧ Below w.heap.size w w' :=
  (Any.strings_Compare cmp106 a b w).mono fun e w' ⟨h1, h2⟩ => ⟨h1, by rw [h2]; exact Below.refl _ _⟩
set_option maxRecDepth 100000 in
theorem cmpRow_any (s t : ByteArray) (a b : Int) (x : Value) (L : List T3) (w : World) (hx : TermsAt w x L) : Calls Try.prog 78 #[.agg #[.string s, .int .i64 a, .int .i64 b, x], .string t] w fun e w' => e = .returned (.int .i64 (cmpS s t)) ∧ Below w.heap.size w w' := by
  have HE := compare_any s t
  obtain ⟨A, ca, rfl, _⟩ := hx
  go_enter Try.func78, Try.ntmps78
  go_wp2_with fail
  (with_reducible refine (HE _).mono ?_)
  rintro e w1 ⟨rfl, hb1⟩
  go_wp2
  go_ret
  exact ⟨rfl, bl_call (by repeat (first | (with_reducible refine bl_set ?_ (by simp <;> omega) _) | (with_reducible refine bl_alloc ?_ (Nat.le_refl _) _) | (with_reducible refine Below.drew ?_) | (with_reducible assumption) | (with_reducible exact Below.refl _ _))) hb1⟩
set_option maxRecDepth 100000 in
set_option maxHeartbeats 16000000 in
theorem search_any (x : Value) (R : List R4) (hn : R.length ≤ 1048576) (s : ByteArray) (hr : Rises R) (w : World) (hx : RowsAt w x R) : Calls Try.prog 77 #[x, .string s, .func (.func 78) #[] #[]] w fun e w' => (∃ i : Int, e = .returned (.tuple #[.int .i64 i, .bool (decide (0 ≤ fdR R s))]) ∧ (0 ≤ fdR R s → i = fdR R s)) ∧ Below w.heap.size w w' := by
  have eg : ∀ args w, (callFunc 78 args).run Try.prog w = .ok (.enter 78 args) w := enters_of Try.func78 (by kernel_rfl) rfl
  obtain ⟨A, ca, rfl, hA⟩ := hx
  have HR := hide hr
  have HNO := hide (fun h => @fdR_none R s h)
  have HIT := hide (fun k h0 h1 h2 => @fdR_hit R s k h0 h1 h2)
  have HA := hide hA
  clear hr hA
  generalize hnn : R.length = n at *
  go_enter Try.func77, Try.ntmps77
  go_wp2
  go_loopw [9, 10] (fun s9 s10 wr => ∃ lo hi : Nat, s9 = .int .i64 lo ∧ s10 = .int .i64 hi ∧ lo ≤ hi ∧ hi ≤ n ∧ Below w.heap.size w wr ∧ Hid ((∀ t, t < lo → lessB (R.getD t r4d).1 s = true) ∧ (∀ t, hi ≤ t → t < n → lessB (R.getD t r4d).1 s = false))) (fun s9 s10 _ => (intOf s10).toNat - (intOf s9).toNat)
  case atStart => exact ⟨0, n, rfl, rfl, by omega, by omega, Below.refl _ _, ⟨fun t ht => by omega, fun t h1 h2 => by omega⟩⟩
  case round =>
    obtain ⟨lo, hi, rfl, rfl, hlh, hin, hbw, hI⟩ := hrel
    have hbs := hbw.size
    by_cases hlt : lo < hi
    · obtain ⟨g, o, rfl, hg, hcg⟩ := HA.out (by omega)
      obtain ⟨k, hk⟩ : ∃ k, k = (lo + hi) / 2 := ⟨_, rfl⟩
      have hk1 : lo ≤ k := by omega
      have hk2 : k < hi := by omega
      obtain ⟨a1, a2, a3, sv, a4, a5⟩ := hcg k (by omega)
      have c1 := (hbw.cell (p := ⟨g, o + k * 4, none⟩) hg).trans a1
      have c2 := (hbw.cell (p := ⟨g, o + k * 4 + 1, none⟩) hg).trans a2
      have c3 := (hbw.cell (p := ⟨g, o + k * 4 + 2, none⟩) hg).trans a3
      have c4 := (hbw.cell (p := ⟨g, o + k * 4 + 3, none⟩) hg).trans a4
      have HC := hide (cmpRow_any (R.getD k r4d).1 s (R.getD k r4d).2.1 (R.getD k r4d).2.2.1 sv (R.getD k r4d).2.2.2 wr (a5.later hbw))
      obtain ⟨As, cs, rfl, _⟩ := a5
      have HLESS := hide (cmpS_less (R.getD k r4d).1 s)
      have hgr : g < wr.heap.size := Nat.lt_of_lt_of_le hg hbs
      have HBW := hide hbw
      have HUP := hide (fun (h : lessB (R.getD k r4d).1 s = true) t (ht : t < k + 1) => show lessB (R.getD t r4d).1 s = true by
        by_cases e : t = k
        · rw [e]; exact h
        · exact lessB_trans (HR.out t k (by omega) (by omega)) h)
      have HDN := hide (fun (h : lessB (R.getD k r4d).1 s = false) t (h1 : k ≤ t) (h2 : t < n) => show lessB (R.getD t r4d).1 s = false by
        by_cases e : t = k
        · rw [e]; exact h
        · cases q : lessB (R.getD t r4d).1 s
          · rfl
          · rw [lessB_trans (HR.out k t (by omega) (by omega)) q] at h; cases h)
      clear hcg a1 a2 a3 a4 hbw
      generalize R.getD k r4d = q at *
      obtain ⟨s1, n1, m1, L1⟩ := q
      simp only at c1 c2 c3 c4 HC
      subst hk
      have hlt2 : (lo : Int) < (hi : Int) := by omega
      have hkn : (lo + hi) / 2 < n := by omega
      have hkn2 : ((lo : Int) + (hi : Int)) / 2 < (n : Int) := by omega
      cases hl : lessB s1 s
      · have hv : decide (cmpS s1 s < 0) = false := decide_eq_false (fun h => by rw [HLESS.out.mp h] at hl; cases hl)
        have HD := hide (HDN.out hl)
        generalize cmpS s1 s = cv at *
        clear hl HLESS HUP HDN
        go_wp2_with (go_at_fn 78; (with_reducible refine HC.out.mono ?_); rintro e w1 ⟨rfl, hb1⟩)
        go_roundw
        case rel => exact ⟨lo, (lo + hi) / 2, rfl, by rw [show ((lo : Int) + (hi : Int)) / 2 = (((lo + hi) / 2 : Nat) : Int) by omega], by omega, by omega, HBW.out.trans (hb1.mono hbs), ⟨hI.out.1, HD.out⟩⟩
        case measure => simp [intOf]; omega
      · have hv : decide (cmpS s1 s < 0) = true := decide_eq_true (HLESS.out.mpr hl)
        have HD := hide (HUP.out hl)
        generalize cmpS s1 s = cv at *
        clear hl HLESS HUP HDN
        go_wp2_with (go_at_fn 78; (with_reducible refine HC.out.mono ?_); rintro e w1 ⟨rfl, hb1⟩)
        go_roundw
        case rel => exact ⟨(lo + hi) / 2 + 1, hi, by rw [show ((lo : Int) + (hi : Int)) / 2 + 1 = (((lo + hi) / 2 + 1 : Nat) : Int) by omega], rfl, by omega, by omega, HBW.out.trans (hb1.mono hbs), ⟨HD.out, hI.out.2⟩⟩
        case measure => simp [intOf]; omega
    · obtain rfl : lo = hi := by omega
      by_cases hln : lo < n
      · obtain ⟨g, o, rfl, hg, hcg⟩ := HA.out (by omega)
        obtain ⟨a1, a2, a3, sv, a4, a5⟩ := hcg lo hln
        have c1 := (hbw.cell (p := ⟨g, o + lo * 4, none⟩) hg).trans a1
        have c2 := (hbw.cell (p := ⟨g, o + lo * 4 + 1, none⟩) hg).trans a2
        have c3 := (hbw.cell (p := ⟨g, o + lo * 4 + 2, none⟩) hg).trans a3
        have c4 := (hbw.cell (p := ⟨g, o + lo * 4 + 3, none⟩) hg).trans a4
        have HC := hide (cmpRow_any (R.getD lo r4d).1 s (R.getD lo r4d).2.1 (R.getD lo r4d).2.2.1 sv (R.getD lo r4d).2.2.2 wr (a5.later hbw))
        obtain ⟨As, cs, rfl, _⟩ := a5
        have HEQ := hide (cmpS_eq (R.getD lo r4d).1 s)
        have hgr : g < wr.heap.size := Nat.lt_of_lt_of_le hg hbs
        have HBW := hide hbw
        have hlow : ∀ j, j < lo → ¬ (R.getD j r4d).1 = s := fun j hj => lessB_ne (hI.out.1 j hj)
        have HY := hide (fun (h : (R.getD lo r4d).1 = s) => HIT.out lo hln hlow h)
        have HN := hide (fun (h : ¬ (R.getD lo r4d).1 = s) => HNO.out (fun j hj e => by
          rcases Nat.lt_trichotomy j lo with q | q | q
          · exact hlow j q e
          · rw [q] at e; exact h e
          · have h1 := HR.out lo j q (by omega)
            rw [e, hI.out.2 lo (Nat.le_refl _) hln] at h1
            cases h1))
        clear hcg a1 a2 a3 a4 hbw hlow
        generalize R.getD lo r4d = q at *
        obtain ⟨s1, n1, m1, L1⟩ := q
        simp only at c1 c2 c3 c4 HC
        have hln2 : (lo : Int) < (n : Int) := by omega
        by_cases hs : s1 = s
        · have hv : (cmpS s1 s == 0) = true := by rw [HEQ.out.mpr hs]; rfl
          have hf := HY.out hs
          have HF := hide hf
          have HD := hide (show decide (0 ≤ fdR R s) = true by rw [hf]; exact decide_eq_true (by omega))
          generalize cmpS s1 s = cv at *
          clear hs HEQ HY HN hf
          go_wp2_with (go_at_fn 78; (with_reducible refine HC.out.mono ?_); rintro e w1 ⟨rfl, hb1⟩)
          go_ret2
          exact ⟨⟨lo, by rw [HD.out]; rfl, fun _ => HF.out.symm⟩, HBW.out.trans (hb1.mono hbs)⟩
        · have hv : (cmpS s1 s == 0) = false := by
            have : ¬ cmpS s1 s = 0 := fun h => hs (HEQ.out.mp h)
            simpa using this
          have hf := HN.out hs
          have HF := hide hf
          have HD := hide (show decide (0 ≤ fdR R s) = false by rw [hf]; rfl)
          generalize cmpS s1 s = cv at *
          clear hs HEQ HY HN hf
          go_wp2_with (go_at_fn 78; (with_reducible refine HC.out.mono ?_); rintro e w1 ⟨rfl, hb1⟩)
          go_ret2
          exact ⟨⟨lo, by rw [HD.out]; rfl, fun h => by rw [HF.out] at h; omega⟩, HBW.out.trans (hb1.mono hbs)⟩
      · obtain rfl : lo = n := by omega
        have hf := HNO.out (fun j hj => lessB_ne (hI.out.1 j hj))
        have HF := hide hf
        have HD := hide (show decide (0 ≤ fdR R s) = false by rw [hf]; rfl)
        have HBW := hide hbw
        clear hf hbw
        go_wp2
        go_ret2
        exact ⟨⟨lo, by rw [HD.out]; rfl, fun h => by rw [HF.out] at h; omega⟩, HBW.out⟩
set_option maxRecDepth 100000 in
set_option maxHeartbeats 4000000 in
theorem findRow_any (x : Value) (R : List R4) (hn : R.length ≤ 1048576) (s : ByteArray) (hr : Rises R) (w : World) (hx : RowsAt w x R) : Calls Try.prog 53 #[.agg #[x], .string s] w fun e w' => ∃ i : Int, e = .returned (.tuple #[.int .i64 i, .bool (decide (0 ≤ fdR R s))]) ∧ (0 ≤ fdR R s → i = fdR R s) ∧ Below w.heap.size w w' := by
  have HE := hide (fun W (hW : Below w.heap.size w W) => search_any x R hn s hr W (hx.later hW))
  obtain ⟨A, ca, rfl, _⟩ := hx
  generalize fdR R s = F at *
  clear hr
  go_enter Try.func53, Try.ntmps53
  go_wp2_with fail
  (with_reducible refine (HE.out _ (by repeat (first | (with_reducible refine bl_set ?_ (by simp <;> omega) _) | (with_reducible refine bl_alloc ?_ (Nat.le_refl _) _) | (with_reducible refine Below.drew ?_) | (with_reducible assumption) | (with_reducible exact Below.refl _ _)))).mono ?_)
  rintro e w1 ⟨⟨i, rfl, hi⟩, hb1⟩
  have HI := hide hi
  clear hi
  go_wp2
  go_ret2
  exact ⟨i, rfl, HI.out, bl_call (by repeat (first | (with_reducible refine bl_set ?_ (by simp <;> omega) _) | (with_reducible refine bl_alloc ?_ (Nat.le_refl _) _) | (with_reducible refine Below.drew ?_) | (with_reducible assumption) | (with_reducible exact Below.refl _ _))) hb1⟩
set_option maxRecDepth 100000 in
set_option maxHeartbeats 4000000 in
theorem l05Find_any (x : Value) (R : List R4) (hn : R.length ≤ 1048576) (s : ByteArray) (w : World) (hx : RowsAt w x R) : Calls Try.prog 58 #[x, .string s] w fun e w' => e = .returned (.int .i64 (fdR R s)) ∧ Below w.heap.size w w' := by
  obtain ⟨A, ca, rfl, hA⟩ := hx
  have HA := hide hA
  have HNO := hide (fun h => @fdR_none R s h)
  have HIT := hide (fun k h0 h1 h2 => @fdR_hit R s k h0 h1 h2)
  clear hA
  generalize hnn : R.length = n at *
  go_enter Try.func58, Try.ntmps58
  go_wp2
  go_loopw [5] (fun iv wr => ∃ k : Nat, k ≤ n ∧ iv = .int .i64 k ∧ Below w.heap.size w wr ∧ Hid (∀ j, j < k → ¬ (R.getD j r4d).1 = s)) (fun iv _ => n - (intOf iv).toNat)
  case atStart => exact ⟨0, by omega, rfl, Below.refl _ _, hide (fun j hj => by omega)⟩
  case round =>
    obtain ⟨k, hk, rfl, hbw, hno⟩ := hrel
    have HBW := hide hbw
    by_cases hkn : k < n
    · obtain ⟨g, o, rfl, hg, hcg⟩ := HA.out (by omega)
      obtain ⟨a1, _⟩ := hcg k hkn
      have c1 := (hbw.cell (p := ⟨g, o + k * 4, none⟩) hg).trans a1
      have hgr : g < wr.heap.size := Nat.lt_of_lt_of_le hg hbw.size
      have HY := hide (fun (h : (R.getD k r4d).1 = s) => HIT.out k hkn hno.out h)
      have HN := hide (fun (h : ¬ (R.getD k r4d).1 = s) j (hj : j < k + 1) => show ¬ (R.getD j r4d).1 = s by
        by_cases e : j = k
        · rw [e]; exact h
        · exact hno.out j (by omega))
      clear hcg a1 hbw
      generalize (R.getD k r4d).1 = s1 at *
      by_cases hs : s1 = s
      · have t1 := ba_beq hs
        have HF := hide (HY.out hs)
        clear HY HN hs
        go_wp2
        go_ret
        exact ⟨by rw [HF.out]; rfl, HBW.out⟩
      · have t1 := ba_nbeq hs
        have HF := hide (HN.out hs)
        clear HY HN hs
        go_wp2
        go_roundw
        case rel => exact ⟨k + 1, by omega, by go_num, HBW.out, HF⟩
        case measure => simp [intOf]; omega
    · obtain rfl : k = n := by omega
      have HF := hide (HNO.out hno.out)
      clear hbw
      go_wp2
      go_ret
      exact ⟨by rw [HF.out]; rfl, HBW.out⟩
end Go.Proofs.Ythojgmhionekbaa
