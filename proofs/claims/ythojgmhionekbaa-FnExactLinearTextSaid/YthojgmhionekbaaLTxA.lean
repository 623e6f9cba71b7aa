/-
  CONTRACTS of l05Text and LinearText of package spec. Conditions: what the slices hold.
-/
import Derived.Test.YthojgmhionekbaaLinW
import Derived.Test.YthojgmhionekbaaFText
namespace Go.Proofs.Ythojgmhionekbaa
open Go.RowKit Go.Sort
set_option linter.unusedVariables false
attribute [local go_sem] cell_grow frozen_grow
/-- the text of a term, of the first terms, of an expression -/
def termT (t : T3) : ByteArray := ftB t.2.1 t.2.2 ++ ⟨#[42]⟩ ++ t.1
def accT (L : List T3) : Nat → ByteArray
  | 0 => ⟨#[]⟩
  | 1 => ⟨#[]⟩ ++ termT (L.getD 0 t3d)
  | k + 2 => accT L (k + 1) ++ ⟨#[32, 43, 32]⟩ ++ termT (L.getD (k + 1) t3d)
def linS (a b : Int) (L : List T3) : ByteArray := if L.length = 0 then ftB a b else if a = 0 then accT L L.length else accT L L.length ++ (⟨#[32, 43, 32]⟩ ++ ftB a b)
def linT (a b : Int) (L : List T3) : ByteArray := if linOk a b L then linS a b L else ⟨#[]⟩
theorem ftL_size {n d : Int} (h : okFr n d = true) : (ftB n d).size ≤ 41 := by
  obtain ⟨a, b, c, e, _⟩ := okFr_t h
  have h1 := decB_size (n := n) (by omega) (by omega)
  have h2 := decB_size (n := d) (by omega) (by omega)
  unfold ftB
  split
  · omega
  · rw [size_app, size_app]
    have : (⟨#[47]⟩ : ByteArray).size = 1 := rfl
    omega
theorem allN_at {p : Nat → Bool} {k : Nat} : ∀ n, allN p n = true → k < n → p k = true
  | n + 1, h, hk => by
    simp only [allN, Bool.and_eq_true] at h
    by_cases e : k = n
    · rw [e]; exact h.2
    · exact allN_at n h.1 (by omega)
theorem linOk_t {a b : Int} {L : List T3} (h : linOk a b L = true) : okFr a b = true ∧ L.length ≤ 12 ∧ ∀ k, k < L.length → tmOk (L.getD k t3d) = true := by
  unfold linOk at h
  simp only [Bool.and_eq_true, decide_eq_true_eq] at h
  refine ⟨h.1.1, h.1.2, fun k hk => ?_⟩
  have := allN_at _ h.2 hk
  simp only [Bool.and_eq_true] at this
  exact this.1
theorem tmOk_t {t : T3} (h : tmOk t = true) : okFr t.2.1 t.2.2 = true ∧ t.1.size ≤ 12 := by
  unfold tmOk isNm at h
  simp only [Bool.and_eq_true, decide_eq_true_eq] at h
  exact ⟨h.1.2, h.1.1.1.1.2⟩
theorem accT_size {a b : Int} {L : List T3} (h : linOk a b L = true) : ∀ k, k ≤ L.length → (accT L k).size ≤ 57 * k := by
  obtain ⟨_, _, hT⟩ := linOk_t h
  have one : ∀ k, k < L.length → (termT (L.getD k t3d)).size ≤ 54 := by
    intro k hk
    obtain ⟨t1, t2⟩ := tmOk_t (hT k hk)
    have := ftL_size t1
    unfold termT
    rw [size_app, size_app]
    have e : (⟨#[42]⟩ : ByteArray).size = 1 := rfl
    omega
  intro k
  induction k with
  | zero => intro _; exact Nat.le_refl _
  | succ k ih =>
    intro hk
    have h1 := ih (by omega)
    have h2 := one k (by omega)
    cases k with
    | zero => rw [accT, size_app]; have e : (⟨#[]⟩ : ByteArray).size = 0 := rfl; omega
    | succ j => rw [accT, size_app, size_app]; have e : (⟨#[32, 43, 32]⟩ : ByteArray).size = 3 := rfl; omega
theorem accT_s (L : List T3) (k : Nat) (h : 0 < k) : accT L (k + 1) = accT L k ++ ⟨#[32, 43, 32]⟩ ++ termT (L.getD k t3d) := by
  obtain ⟨j, rfl⟩ : ∃ j, k = j + 1 := ⟨k - 1, by omega⟩
  rfl
set_option maxRecDepth 100000 in
set_option maxHeartbeats 16000000 in
theorem l05Text_any (a b : Int) (x : Value) (L : List T3) (hok : linOk a b L = true) (w : World) (hx : TermsAt w x L) (P : Nat) (hP : P < w.heap.size) (hp0 : w.cell? ⟨P, 0, none⟩ = some (.int .i64 a)) (hp1 : w.cell? ⟨P, 1, none⟩ = some (.int .i64 b)) (hp2 : w.cell? ⟨P, 2, none⟩ = some x) : Calls Try.prog 54 #[.pointer (some ⟨P, 0, none⟩)] w fun e w' => e = .returned (.string (linS a b L)) ∧ Below w.heap.size w w' := by
  obtain ⟨hab, hn12, hT⟩ := linOk_t hok
  have hsz := fun k hk => accT_size hok k hk
  obtain ⟨A, ca, rfl, hA⟩ := hx
  have HN := hide (fun (h : L.length = 0) => (show linS a b L = ftB a b by unfold linS; rw [if_pos h]))
  have HZ := hide (fun (h : ¬ L.length = 0) (h0 : a = 0) => (show linS a b L = accT L L.length by unfold linS; rw [if_neg h, if_pos h0]))
  have HF := hide (fun (h : ¬ L.length = 0) (h0 : ¬ a = 0) => (show linS a b L = accT L L.length ++ (⟨#[32, 43, 32]⟩ ++ ftB a b) by unfold linS; rw [if_neg h, if_neg h0]))
  have HAB := l02Text_any a b hab
  have hsab := ftL_size hab
  generalize hn : L.length = n at *
  clear hok
  go_enter Try.func54, Try.ntmps54
  go_wp2
  go_loopw [3, 4] (fun ov iv wr => ∃ k : Nat, k ≤ n ∧ iv = .int .i64 k ∧ ov = .string (accT L k) ∧ Below w.heap.size w wr) (fun _ iv _ => n - (intOf iv).toNat)
  case atStart => exact ⟨0, by omega, rfl, rfl, Below.refl _ _⟩
  case round =>
    obtain ⟨k, hk, rfl, rfl, hbw⟩ := hrel
    have hzw := hbw.size
    have hza : P < wr.heap.size := by omega
    have bx : wr.cell? ⟨P, 2, none⟩ = some (.slice A n ca) := (hbw.cell (p := ⟨P, 2, none⟩) hP).trans hp2
    have by0 : wr.cell? ⟨P, 0, none⟩ = some (.int .i64 a) := (hbw.cell (p := ⟨P, 0, none⟩) hP).trans hp0
    have by1 : wr.cell? ⟨P, 1, none⟩ = some (.int .i64 b) := (hbw.cell (p := ⟨P, 1, none⟩) hP).trans hp1
    have HP := hide hp0
    have HP1 := hide hp1
    have HP2 := hide hp2
    have hs1 := hsz k hk
    clear hp0 hp1 hp2
    by_cases hkn : k < n
    · obtain ⟨g, o, rfl, hg, hcg⟩ := hA (by omega)
      obtain ⟨a1, a2, a3⟩ := hcg k hkn
      obtain ⟨t1, t2⟩ := tmOk_t (hT k hkn)
      have c1 := (hbw.cell (p := ⟨g, o + k * 3, none⟩) hg).trans a1
      have c2 := (hbw.cell (p := ⟨g, o + k * 3 + 1, none⟩) hg).trans a2
      have c3 := (hbw.cell (p := ⟨g, o + k * 3 + 2, none⟩) hg).trans a3
      have hgr : g < wr.heap.size := by omega
      have HTx := l02Text_any _ _ t1
      have hs2 := ftL_size t1
      have hs4 : (ftB (L.getD k t3d).2.1 (L.getD k t3d).2.2 ++ ⟨#[42]⟩).size ≤ 42 := by rw [size_app]; have e : (⟨#[42]⟩ : ByteArray).size = 1 := rfl; omega
      have hs5 : (ftB (L.getD k t3d).2.1 (L.getD k t3d).2.2 ++ ⟨#[42]⟩ ++ (L.getD k t3d).1).size ≤ 54 := by rw [size_app]; omega
      have HK := hide hsz
      have HT := hide hT
      have HC := hide hcg
      have HBW := hide hbw
      by_cases k0 : k = 0
      · have e1 := hide (show accT L (k + 1) = accT L k ++ (ftB (L.getD k t3d).2.1 (L.getD k t3d).2.2 ++ ⟨#[42]⟩ ++ (L.getD k t3d).1) by rw [k0]; rfl)
        have hm0 : decide (0 < k) = false := decide_eq_false (by omega)
        have hm1 : ¬ (0 < (k : Int)) := by omega
        clear hA hT hsz hcg a1 a2 a3 k0 hbw
        generalize L.getD k t3d = q at *
        generalize accT L k = ac at *
        go_wp2
        refine wp_region_quiet_below (by kernel_rfl) (by kernel_rfl) ?_
        repeat (first | go_big_quiet_step (((go_at_call 80; with_reducible exact Calls.regrown_of (HTx _)))) | quiet_step (((go_at_call 80; with_reducible exact Calls.regrown_of (HTx _)))))
        refine wpQuiet_nil ?_
        intro w1 hw1
        obtain ⟨pq, hpq⟩ := hw1
        have hb1 := below_of hpq
        clear hpq pq
        have hz4 := hb1.size
        (try simp at hz4)
        obtain ⟨hc1, hf1⟩ := bcell hb1
        have hw1 : Below w.heap.size w w1 := bl_call (by repeat (first | exact Below.refl _ _ | assumption | (refine bl_alloc ?_ (Nat.le_refl _) _) | (refine bl_set ?_ (by simp <;> omega) _))) hb1
        have hz1 : w.heap.size + 0 ≤ w1.heap.size := (by have hq := hb1.size; have hr := hw1.size; (try simp at hq); omega)
        go_wp2
        go_roundw
        case rel => exact ⟨k + 1, by omega, by go_num, by rw [e1.out], hw1⟩
        case measure => simp [intOf]; omega
      · have e1 := hide (show accT L (k + 1) = accT L k ++ ⟨#[32, 43, 32]⟩ ++ (ftB (L.getD k t3d).2.1 (L.getD k t3d).2.2 ++ ⟨#[42]⟩ ++ (L.getD k t3d).1) from accT_s L k (by omega))
        have hs3 : (accT L k ++ ⟨#[32, 43, 32]⟩).size ≤ 57 * k + 3 := by rw [size_app]; have e : (⟨#[32, 43, 32]⟩ : ByteArray).size = 3 := rfl; omega
        have hm0 : 0 < (k : Int) := by omega
        clear hA hT hsz hcg a1 a2 a3 k0 hbw
        generalize L.getD k t3d = q at *
        generalize accT L k = ac at *
        go_wp2
        refine wp_region_quiet_below (by kernel_rfl) (by kernel_rfl) ?_
        repeat (first | go_big_quiet_step (((go_at_call 80; with_reducible exact Calls.regrown_of (HTx _)))) | quiet_step (((go_at_call 80; with_reducible exact Calls.regrown_of (HTx _)))))
        refine wpQuiet_nil ?_
        intro w1 hw1
        obtain ⟨pq, hpq⟩ := hw1
        have hb1 := below_of hpq
        clear hpq pq
        have hz4 := hb1.size
        (try simp at hz4)
        obtain ⟨hc1, hf1⟩ := bcell hb1
        have hw1 : Below w.heap.size w w1 := bl_call (by repeat (first | exact Below.refl _ _ | assumption | (refine bl_alloc ?_ (Nat.le_refl _) _) | (refine bl_set ?_ (by simp <;> omega) _))) hb1
        have hz1 : w.heap.size + 0 ≤ w1.heap.size := (by have hq := hb1.size; have hr := hw1.size; (try simp at hq); omega)
        go_wp2
        go_roundw
        case rel => exact ⟨k + 1, by omega, by go_num, by rw [e1.out], hw1⟩
        case measure => simp [intOf]; omega
    · obtain rfl : k = n := by omega
      have HBW := hide hbw
      clear hbw hA hT hsz
      by_cases k0 : k = 0
      · have HR := hide (HN.out k0)
        have q1 : ((k : Int) == 0) = true := by rw [k0]; rfl
        clear HN HZ HF k0
        go_wp2_with (first | (go_at_call 80; (with_reducible refine (HAB _).mono ?_); rintro e w1 ⟨rfl, hb1⟩; obtain ⟨hc1, hf1⟩ := bcell hb1; have hw1 : Below w.heap.size w w1 := bl_call (by repeat (first | exact Below.refl _ _ | assumption | (refine bl_alloc ?_ (Nat.le_refl _) _) | (refine bl_set ?_ (by simp <;> omega) _))) hb1; have hz1 : w.heap.size + 0 ≤ w1.heap.size := (by have hq := hb1.size; have hr := hw1.size; (try simp at hq); omega); have hz4 := hb1.size; (try simp at hz4); (try have hz5 := Nat.lt_of_succ_le hz4)))
        go_ret
        exact ⟨by rw [HR.out]; rfl, HBW.out.trans (hb1.mono (by omega))⟩
      · have q1 : ((k : Int) == 0) = false := by simpa using k0
        by_cases a0 : a = 0
        · have HR := hide (HZ.out k0 a0)
          have q2 : (a != 0) = false := by rw [a0]; rfl
          clear HN HZ HF k0 a0
          go_wp2
          go_ret
          exact ⟨by rw [HR.out]; rfl, HBW.out⟩
        · have HR := hide (HF.out k0 a0)
          have q2 : (a != 0) = true := by simpa using a0
          have hs3 : (⟨#[32, 43, 32]⟩ ++ ftB a b).size ≤ 44 := by rw [size_app]; have e : (⟨#[32, 43, 32]⟩ : ByteArray).size = 3 := rfl; omega
          clear HN HZ HF k0 a0
          go_wp2_with (first | (go_at_call 80; (with_reducible refine (HAB _).mono ?_); rintro e w1 ⟨rfl, hb1⟩; obtain ⟨hc1, hf1⟩ := bcell hb1; have hw1 : Below w.heap.size w w1 := bl_call (by repeat (first | exact Below.refl _ _ | assumption | (refine bl_alloc ?_ (Nat.le_refl _) _) | (refine bl_set ?_ (by simp <;> omega) _))) hb1; have hz1 : w.heap.size + 0 ≤ w1.heap.size := (by have hq := hb1.size; have hr := hw1.size; (try simp at hq); omega); have hz4 := hb1.size; (try simp at hz4); (try have hz5 := Nat.lt_of_succ_le hz4)))
          go_ret
          exact ⟨by rw [HR.out]; rfl, HBW.out.trans (hb1.mono (by omega))⟩
set_option maxRecDepth 100000 in
set_option maxHeartbeats 4000000 in
theorem linearText_s (a b : Int) (ha : -9223372036854775808 ≤ a ∧ a ≤ 9223372036854775807) (x : Value) (L : List T3) (hB : LinB L) (w : World) (hx : TermsAt w x L) : Calls Try.prog 29 #[.agg #[.int .i64 a, .int .i64 b, x]] w fun e w' => e = .returned (.string (linT a b L)) ∧ Below w.heap.size w w' := by
  have HO := hide (fun W P hW h1 h2 h3 h4 => l05Ok_s a b ha x L hB W (hx.later (hW : Below w.heap.size w W)) P h1 h2 h3 h4)
  have HT := hide (fun h W P hW h1 h2 h3 h4 => l05Text_any a b x L h W (hx.later (hW : Below w.heap.size w W)) P h1 h2 h3 h4)
  obtain ⟨A, ca, rfl, _⟩ := hx
  cases h1 : linOk a b L
  · have HR := hide (show linT a b L = ⟨#[]⟩ by unfold linT; rw [h1]; rfl)
    have HH := HO.out
    rw [h1] at HH
    have HQ := hide HH
    clear HO HH h1
    go_enter Try.func29, Try.ntmps29
    go_wp2_with fail
    (with_reducible refine (HQ.out _ w.heap.size (by repeat (first | (with_reducible refine bl_set ?_ (by simp <;> omega) _) | (with_reducible refine bl_alloc ?_ (Nat.le_refl _) _) | (with_reducible refine Below.drew ?_) | (with_reducible assumption) | (with_reducible exact Below.refl _ _))) (by simp) (by simp [go_sem]) (by simp [go_sem]) (by simp [go_sem])).mono ?_)
    rintro e w1 ⟨rfl, hb1⟩
    go_wp2
    go_ret
    exact ⟨by rw [HR.out]; rfl, bl_call (by repeat (first | (with_reducible refine bl_set ?_ (by simp <;> omega) _) | (with_reducible refine bl_alloc ?_ (Nat.le_refl _) _) | (with_reducible refine Below.drew ?_) | (with_reducible assumption) | (with_reducible exact Below.refl _ _))) hb1⟩
  · have HR := hide (show linT a b L = linS a b L by unfold linT; rw [h1]; rfl)
    have HH := HO.out
    rw [h1] at HH
    have HQ := hide HH
    have HU := hide (HT.out h1)
    clear HO HH HT h1
    go_enter Try.func29, Try.ntmps29
    go_wp2_with fail
    (with_reducible refine (HQ.out _ w.heap.size (by repeat (first | (with_reducible refine bl_set ?_ (by simp <;> omega) _) | (with_reducible refine bl_alloc ?_ (Nat.le_refl _) _) | (with_reducible refine Below.drew ?_) | (with_reducible assumption) | (with_reducible exact Below.refl _ _))) (by simp) (by simp [go_sem]) (by simp [go_sem]) (by simp [go_sem])).mono ?_)
    rintro e w1 ⟨rfl, hb1⟩
    have z1 := hb1.size
    simp at z1
    have o1 : w1.heap[w.heap.size]? = some (.cells #[.int .i64 a, .int .i64 b, .slice A L.length ca] 32 (0, 0)) := (hb1.block _ (by simp)).trans (ug_new _ _ rfl)
    have b1 : Below w.heap.size w w1 := bl_call (by repeat (first | (with_reducible refine bl_set ?_ (by simp <;> omega) _) | (with_reducible refine bl_alloc ?_ (Nat.le_refl _) _) | (with_reducible refine Below.drew ?_) | (with_reducible assumption) | (with_reducible exact Below.refl _ _))) hb1
    have k1 := ug_cell o1
    clear hb1
    go_wp2_with fail
    (with_reducible refine (HU.out w1 w.heap.size b1 (by omega) ((k1 0).trans rfl) ((k1 1).trans rfl) ((k1 2).trans rfl)).mono ?_)
    rintro e w2 ⟨rfl, hb2⟩
    go_wp2
    go_ret
    exact ⟨by rw [HR.out]; rfl, b1.trans (hb2.mono (by omega))⟩
end Go.Proofs.Ythojgmhionekbaa
