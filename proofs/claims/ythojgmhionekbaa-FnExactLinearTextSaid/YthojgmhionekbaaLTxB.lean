/-
  CONTRACT of LinearText of package impl. Conditions: what the slices hold.
-/
import Derived.Test.YthojgmhionekbaaLTxA
import Derived.Test.YthojgmhionekbaaJoin
import Derived.Deep.RegionHeld3
import Derived.Deep.AppendLies
namespace Go.Proofs.Ythojgmhionekbaa
open Go.RowKit Go.Sort
set_option linter.unusedVariables false
attribute [local go_sem] cell_grow frozen_grow
theorem info_strL : (Try.prog.info? 9).map (fun i => (i.zero, i.size, i.bytes)) = some (some (.string ⟨#[]⟩), 1, 16) := by kernel_rfl
theorem own_valL {w : World} {B n : Nat} {t : TypeId} {v : Value} {xs : List Value} {sz : Nat} (h : w.ownsRow B t sz v n xs) : ∃ A c, v = .slice A n c := by
  rcases h.2 with ⟨rfl, h0⟩ | ⟨g, cap, cur, rfl, _⟩
  · exact ⟨none, 0, by rw [h0]⟩
  · exact ⟨_, cap, rfl⟩
/-- the texts of the first terms -/
def ptsL (L : List T3) : Nat → List ByteArray
  | 0 => []
  | k + 1 => ptsL L k ++ [termT (L.getD k t3d)]
theorem ptsL_len (L : List T3) : ∀ k, (ptsL L k).length = k
  | 0 => rfl
  | k + 1 => by rw [ptsL, List.length_append, ptsL_len L k]; rfl
theorem app_data (a b : ByteArray) : (a ++ b).data.toList = a.data.toList ++ b.data.toList := by
  obtain ⟨⟨l⟩⟩ := a
  obtain ⟨⟨m⟩⟩ := b
  simp
theorem join_snoc (xs : List (List UInt8)) (y sep : List UInt8) (h : xs ≠ []) : Lib.join (xs ++ [y]) sep = Lib.join xs sep ++ sep ++ y := by
  obtain ⟨x, r, rfl⟩ : ∃ x r, xs = x :: r := by cases xs with | nil => exact absurd rfl h | cons x r => exact ⟨x, r, rfl⟩
  rw [List.cons_append, Lib.join_cons, Lib.join_cons]
  simp [Lib.joinTail]
theorem join_pts (L : List T3) : ∀ k, 0 < k → Lib.join ((ptsL L k).map (·.data.toList)) [32, 43, 32] = (accT L k).data.toList
  | 1, _ => by
    show Lib.join [(termT (L.getD 0 t3d)).data.toList] _ = _
    rw [Lib.join_one, accT, app_data]
    rfl
  | k + 2, _ => by
    rw [ptsL, List.map_append, List.map_cons, List.map_nil, join_snoc _ _ _ (by simp [ptsL]), join_pts L (k + 1) (by omega), accT, app_data, app_data]
theorem own_join {w : World} {B n cv : Nat} {t : TypeId} {Av : Option Addr} {xs : List ByteArray} (h : w.ownsRow B t 1 (.slice Av n cv) n (xs.map .string)) (hx : xs.length = n) (h0 : 0 < n) : ∃ g, Av = some ⟨g, 0, none⟩ ∧ g < w.heap.size ∧ n ≤ cv ∧ ∀ (j : Nat) x, xs[j]? = some x → w.cell? ⟨g, 0 + j, none⟩ = some (.string x) := by
  rcases h.2 with ⟨h', _⟩ | ⟨g', cap', cur, h', hb, hgg, h1, _⟩
  · simp only [Value.slice.injEq] at h'
    omega
  · simp only [Value.slice.injEq, true_and] at h'
    obtain ⟨rfl, rfl⟩ := h'
    refine ⟨g', rfl, (Array.getElem?_eq_some_iff.1 hgg).1, h1, fun j x hj => ?_⟩
    have hjl : j < xs.length := (List.getElem?_eq_some_iff.1 hj).1
    rw [Nat.zero_add, h.cellAt j (by omega), List.getElem?_map, hj]
    rfl
theorem join_r (g c k : Nat) (xs : List ByteArray) (R : ByteArray) (hx : xs.length = k) (hk : k ≤ 13) (hR : Lib.join (xs.map (·.data.toList)) [32, 43, 32] = R.data.toList) (hs : R.size ≤ 1000) (w : World) (hcells : ∀ (j : Nat) x, xs[j]? = some x → w.cell? ⟨g, 0 + j, none⟩ = some (.string x)) (hg : g < w.heap.size) (hc : k ≤ c) : Calls Try.prog 56 #[.slice (some ⟨g, 0, none⟩) k c, .string ⟨#[32, 43, 32]⟩] w fun e w' => e = .returned (.string R) ∧ Below w.heap.size w w' := by
  have hl : R.data.toList.length = R.size := Array.length_toList
  have h := join_any g c xs ⟨#[32, 43, 32]⟩ w hcells hg (by omega) (by omega) (by rw [show (⟨#[32, 43, 32]⟩ : ByteArray).data.toList = [32, 43, 32] from rfl, hR, hl]; omega)
  rw [show (⟨#[32, 43, 32]⟩ : ByteArray).data.toList = [32, 43, 32] from rfl, hR, hx] at h
  exact h
set_option maxRecDepth 100000 in
set_option maxHeartbeats 16000000 in
theorem linearText_i (a b : Int) (ha : -9223372036854775808 ≤ a ∧ a ≤ 9223372036854775807) (x : Value) (L : List T3) (hB : LinB L) (w : World) (hx : TermsAt w x L) : Calls Try.prog 30 #[.agg #[.int .i64 a, .int .i64 b, x]] w fun e w' => e = .returned (.string (linT a b L)) ∧ Below w.heap.size w w' := by
  obtain ⟨i0, hi, hzA, hzB, hzC⟩ := info_parts info_strL
  have HV := hide (fun W (hW : Below w.heap.size w W) => validLinear_i a b ha x L hB W (hx.later hW))
  obtain ⟨A, ca, rfl, hA⟩ := hx
  clear hB
  cases h1 : linOk a b L
  · have HR := hide (show linT a b L = ⟨#[]⟩ by unfold linT; rw [h1]; rfl)
    have HH := HV.out
    rw [h1] at HH
    have HQ := hide HH
    clear HV HH h1
    go_enter Try.func30, Try.ntmps30
    go_wp2_with fail
    (with_reducible refine (HQ.out _ (by repeat (first | (with_reducible refine bl_set ?_ (by simp <;> omega) _) | (with_reducible refine bl_alloc ?_ (Nat.le_refl _) _) | (with_reducible refine Below.drew ?_) | (with_reducible assumption) | (with_reducible exact Below.refl _ _)))).mono ?_)
    rintro e w1 ⟨rfl, hb1⟩
    go_wp2
    go_ret
    exact ⟨by rw [HR.out]; rfl, bl_call (by repeat (first | (with_reducible refine bl_set ?_ (by simp <;> omega) _) | (with_reducible refine bl_alloc ?_ (Nat.le_refl _) _) | (with_reducible refine Below.drew ?_) | (with_reducible assumption) | (with_reducible exact Below.refl _ _))) hb1⟩
  obtain ⟨hab, hn12, hT⟩ := linOk_t h1
  have hsz := fun k hk => accT_size h1 k hk
  have HR := hide (show linT a b L = linS a b L by unfold linT; rw [h1]; rfl)
  have HH := HV.out
  rw [h1] at HH
  have HQ := hide HH
  clear HV HH h1
  generalize hn : L.length = n at *
  go_enter Try.func30, Try.ntmps30
  go_wp2_with fail
  (with_reducible refine (HQ.out _ (by repeat (first | (with_reducible refine bl_set ?_ (by simp <;> omega) _) | (with_reducible refine bl_alloc ?_ (Nat.le_refl _) _) | (with_reducible refine Below.drew ?_) | (with_reducible assumption) | (with_reducible exact Below.refl _ _)))).mono ?_)
  rintro e wV ⟨rfl, hb1⟩
  have bV : Below w.heap.size w wV := bl_call (by repeat (first | (with_reducible refine bl_set ?_ (by simp <;> omega) _) | (with_reducible refine bl_alloc ?_ (Nat.le_refl _) _) | (with_reducible refine Below.drew ?_) | (with_reducible assumption) | (with_reducible exact Below.refl _ _))) hb1
  have zV := hb1.size
  simp at zV
  have oV : wV.heap[w.heap.size]? = some (.cells #[.int .i64 a, .int .i64 b, .slice A n ca] 32 (0, 0)) := (hb1.block _ (by simp)).trans (ug_new _ _ rfl)
  have kV := ug_cell oV
  clear hb1
  go_wp2
  go_loopw [3, 12] (fun v iv wr => ∃ k : Nat, k ≤ n ∧ iv = .int .i64 k ∧ Under 9 1 wV.heap.size v k ((ptsL L k).map .string) w wV wr) (fun _ iv _ => n - (intOf iv).toNat)
  case atStart => exact ⟨0, by omega, rfl, Under.start (World.ownsRow_nil _ _ _ _) (fun k hk => by simp [Value.ownBlock] at hk) (by omega) (Nat.le_refl _) bV⟩
  case round =>
    obtain ⟨k, hk, rfl, hU⟩ := hrel
    obtain ⟨Av, cv, rfl⟩ := own_valL hU.own
    have HU := hide hU
    have hbw := hU.below
    have hzw := hbw.size
    have hzr : wV.heap.size ≤ wr.heap.size := hU.size
    clear hU kV
    by_cases hkn : k < n
    · obtain ⟨g, o, rfl, hg, hcg⟩ := hA (by omega)
      obtain ⟨a1, a2, a3⟩ := hcg k hkn
      obtain ⟨t1, t2⟩ := tmOk_t (hT k hkn)
      have c1 := (hbw.cell (p := ⟨g, o + k * 3, none⟩) hg).trans a1
      have c2 := (hbw.cell (p := ⟨g, o + k * 3 + 1, none⟩) hg).trans a2
      have c3 := (hbw.cell (p := ⟨g, o + k * 3 + 2, none⟩) hg).trans a3
      have hgr : g < wr.heap.size := by omega
      obtain ⟨_, _, t5, t6, _⟩ := okFr_t t1
      have HTx := fracText_i (L.getD k t3d).2.1 (L.getD k t3d).2.2 (by omega) (by omega)
      rw [show fracText (L.getD k t3d).2.1 (L.getD k t3d).2.2 = ftB (L.getD k t3d).2.1 (L.getD k t3d).2.2 by unfold fracText; rw [t1]; rfl] at HTx
      have hs2 := ftL_size t1
      have hs4 : (ftB (L.getD k t3d).2.1 (L.getD k t3d).2.2 ++ ⟨#[42]⟩).size ≤ 42 := by rw [size_app]; have e : (⟨#[42]⟩ : ByteArray).size = 1 := rfl; omega
      have e1 := hide (show ptsL L (k + 1) = ptsL L k ++ [ftB (L.getD k t3d).2.1 (L.getD k t3d).2.2 ++ ⟨#[42]⟩ ++ (L.getD k t3d).1] from rfl)
      have HT := hide hT
      have HC := hide hcg
      have HBW := hide hbw
      have hne : (Value.slice Av k cv).ownBlock ≠ some wr.heap.size := fun e => by have := HU.out.lt e; omega
      have HNE := hide hne
      clear hA hT hsz hcg a1 a2 a3 hbw hne t5 t6
      generalize L.getD k t3d = q at *
      obtain ⟨s, n1, d1⟩ := q
      simp only at c1 c2 c3 t2 HTx hs2 hs4 e1
      go_wp2_with fail
      have e42 : (⟨#[42]⟩ : ByteArray).size = 1 := rfl
      have n2' : (9223372036854775807 < (ftB n1 d1).size + 1) = False := eq_false (by omega)
      have n6' : (9223372036854775807 < (ftB n1 d1).size + 1 + s.size) = False := eq_false (by omega)
      clear e42
      have z0 : wr.heap.size < (wr.alloc (.cells #[.string s, .int .i64 n1, .int .i64 d1] 61)).heap.size := by simp
      go_region_held3 (fun w' => w'.cell? ⟨wr.heap.size, 0, none⟩ = some (.string s) ∧ w'.cell? ⟨wr.heap.size, 1, none⟩ = some (.int .i64 n1) ∧ w'.cell? ⟨wr.heap.size, 2, none⟩ = some (.int .i64 d1))
        (first
          | go_keep
          | (go_split_ands; refine ⟨?_, ?_, ?_⟩ <;> (simp [go_sem]; done))
          | (go_split_ands; exact ⟨(hb1.cell (p := ⟨wr.heap.size, 0, none⟩) (by simp)).trans (by assumption), (hb1.cell (p := ⟨wr.heap.size, 1, none⟩) (by simp)).trans (by assumption), (hb1.cell (p := ⟨wr.heap.size, 2, none⟩) (by simp)).trans (by assumption)⟩)
          | (go_split_ands; refine ⟨?_, ?_, ?_⟩ <;> (rw [hgrow.cell_far _ (by simp; omega) (Ne.symm HNE.out)]; assumption)))
        (first
          | (go_at_call 55; ((with_reducible refine (HTx _).mono ?_); rintro e w1 ⟨rfl, hb1⟩; have z1 := hb1.size; simp at z1; have HU1 := HU.out.later (((Below.refl _ _).alloc (Nat.le_refl _) (.cells #[.string s, .int .i64 n1, .int .i64 d1] 61)).drew.trans (hb1.mono (by simp))); have HH1 := hide HU1; clear HU1))
          | (refine step_append_lies _ (by rfl) _ _ _ (by rfl) wV.heap.size 9 i0 _ 1 16 Try.underlying84 hi hzA hzB hzC rfl (by decide) _ k _ (by rfl) (HH1.out.own.alloc _) ⟨w1.heap.size, 0, none⟩ 1 1 [.string (ftB n1 d1 ++ ⟨#[42]⟩ ++ s)] (by rfl) rfl (World.news_of_block (heap_alloc_new w1 _)) (by intro u hu; simp at hu; rcases hu with rfl; rfl) (by decide) (by simp only [maxLen]; omega) (by omega) (by simp; omega) (w1.heap.size + 1) (by simp) ?_; intro g' cap' w3 hown hgrow hat hlt3))
      have HU2 := HH1.out.grown ((Below.refl _ _).alloc (Nat.le_refl _) _) hown hgrow (hat.imp id (fun e => by omega))
      have HW2 := hide HU2
      clear HU2 hown hgrow hat
      go_wp2
      go_roundw
      case rel => exact ⟨k + 1, by omega, by go_num, by rw [e1.out, List.map_append]; exact HW2.out⟩
      case measure => simp [intOf]; omega
    · obtain rfl : k = n := by omega
      have kr := fun i => (HU.out.cell (b := w.heap.size) (by omega) (by omega) i).trans (ug_cell oV i)
      have k0 : wr.cell? ⟨w.heap.size, 0, none⟩ = some (.int .i64 a) := kr 0
      have k1 : wr.cell? ⟨w.heap.size, 1, none⟩ = some (.int .i64 b) := kr 1
      have hz := hsz k (Nat.le_refl _)
      have lens := ptsL_len L k
      have HL := hide lens
      have HS := hide hz
      have HHn := hide hn
      have HB := hide hbw
      obtain ⟨_, _, t5, t6, _⟩ := okFr_t hab
      have HTx := fracText_i a b ha.1 ha.2
      rw [show fracText a b = ftB a b by unfold fracText; rw [hab]; rfl] at HTx
      clear hA hT hsz kr lens hz hn hbw t5 t6 oV bV
      by_cases hc : a = 0 ∧ 0 < k
      · obtain ⟨a0, kp⟩ := hc
        have q2 : (a != 0) = false := by rw [a0]; rfl
        have q3 : ((k : Int) == 0) = false := by simp; omega
        obtain ⟨g, rfl, hg, hcv, hcell⟩ := own_join HU.out.own HL.out kp
        have HJ := join_r g cv k (ptsL L k) (accT L k) HL.out (by omega) (join_pts L k kp) (by have := HS.out; omega) wr hcell hg hcv
        have HR2 := hide (show linS a b L = accT L k by unfold linS; rw [HHn.out, if_neg (by omega), if_pos a0])
        clear hcell a0
        go_wp2_with fail
        (with_reducible refine HJ.mono ?_)
        rintro e w9 ⟨rfl, hb9⟩
        have z9 := HB.out.size
        go_wp2
        go_ret
        exact ⟨by rw [HR.out, HR2.out]; rfl, HB.out.trans (hb9.mono (by omega))⟩
      · have hf := ftL_size hab
        by_cases k00 : k = 0
        · have HSL := show linS a b L = ftB a b by unfold linS; rw [HHn.out, if_pos k00]
          have HRES := hide (show Lib.join ((ptsL L k ++ [ftB a b]).map (·.data.toList)) [32, 43, 32] = (linS a b L).data.toList by rw [HSL, k00]; exact Lib.join_one _ _)
          have HSIZ := hide (show (linS a b L).size ≤ 1000 by rw [HSL]; omega)
          have q3 : ((k : Int) == 0) = true := by rw [k00]; rfl
          have hk12 : k ≤ 12 := by omega
          clear HSL k00 hc
          cases q2 : (a != 0)
          · clear hf
            go_wp2_with fail
            (with_reducible refine (HTx _).mono ?_)
            rintro e w1 ⟨rfl, hb1⟩
            have z1 := hb1.size
            have HH1 := hide (HU.out.later hb1)
            go_wp2_with (at_builtin; refine wpList_append_lies _ (by rfl) (.tmp 36) (.tmp 40) _ (by rfl) wV.heap.size 9 i0 _ 1 16 Try.underlying84 hi hzA hzB hzC rfl (by decide) _ _ _ (by rfl) (HH1.out.own.alloc _) ⟨w1.heap.size, 0, none⟩ 1 1 [.string (ftB a b)] (by rfl) rfl (World.news_of_block (heap_alloc_new w1 _)) (by intro u hu; simp at hu; rcases hu with rfl; rfl) (by decide) (by simp only [maxLen]; omega) (by omega) (by simp; omega) (w1.heap.size + 1) (by simp) ?_; intro g' cap' w3 hown hgrow hat hlt3)
            have HU2 := HH1.out.grown ((Below.refl _ _).alloc (Nat.le_refl _) _) hown hgrow (hat.imp id (fun e => by omega))
            have own2 : w3.ownsRow wV.heap.size 9 1 (.slice (some ⟨g', 0, none⟩) (k + 1) cap') (k + 1) ((ptsL L k ++ [ftB a b]).map .string) := by rw [List.map_append]; exact HU2.own
            obtain ⟨g2, e2, hg2, hcv, hcell⟩ := own_join own2 (by rw [List.length_append, HL.out]; rfl) (by omega)
            obtain rfl : g' = g2 := by simpa using e2
            have HJ := join_r g' cap' (k + 1) _ (linS a b L) (by rw [List.length_append, HL.out]; rfl) (by omega) HRES.out (by have := HSIZ.out; omega) w3 hcell hg2 hcv
            have HBB := hide HU2.below
            clear HU2 own2 hcell hown hgrow hat e2
            (with_reducible refine HJ.mono ?_)
            rintro e w9 ⟨rfl, hb9⟩
            have z9 := HBB.out.size
            go_wp2
            go_ret
            exact ⟨by rw [HR.out]; rfl, HBB.out.trans (hb9.mono (by omega))⟩
          · clear hf
            go_wp2_with fail
            (with_reducible refine (HTx _).mono ?_)
            rintro e w1 ⟨rfl, hb1⟩
            have z1 := hb1.size
            have HH1 := hide (HU.out.later hb1)
            go_wp2_with (at_builtin; refine wpList_append_lies _ (by rfl) (.tmp 36) (.tmp 40) _ (by rfl) wV.heap.size 9 i0 _ 1 16 Try.underlying84 hi hzA hzB hzC rfl (by decide) _ _ _ (by rfl) (HH1.out.own.alloc _) ⟨w1.heap.size, 0, none⟩ 1 1 [.string (ftB a b)] (by rfl) rfl (World.news_of_block (heap_alloc_new w1 _)) (by intro u hu; simp at hu; rcases hu with rfl; rfl) (by decide) (by simp only [maxLen]; omega) (by omega) (by simp; omega) (w1.heap.size + 1) (by simp) ?_; intro g' cap' w3 hown hgrow hat hlt3)
            have HU2 := HH1.out.grown ((Below.refl _ _).alloc (Nat.le_refl _) _) hown hgrow (hat.imp id (fun e => by omega))
            have own2 : w3.ownsRow wV.heap.size 9 1 (.slice (some ⟨g', 0, none⟩) (k + 1) cap') (k + 1) ((ptsL L k ++ [ftB a b]).map .string) := by rw [List.map_append]; exact HU2.own
            obtain ⟨g2, e2, hg2, hcv, hcell⟩ := own_join own2 (by rw [List.length_append, HL.out]; rfl) (by omega)
            obtain rfl : g' = g2 := by simpa using e2
            have HJ := join_r g' cap' (k + 1) _ (linS a b L) (by rw [List.length_append, HL.out]; rfl) (by omega) HRES.out (by have := HSIZ.out; omega) w3 hcell hg2 hcv
            have HBB := hide HU2.below
            clear HU2 own2 hcell hown hgrow hat e2
            (with_reducible refine HJ.mono ?_)
            rintro e w9 ⟨rfl, hb9⟩
            have z9 := HBB.out.size
            go_wp2
            go_ret
            exact ⟨by rw [HR.out]; rfl, HBB.out.trans (hb9.mono (by omega))⟩
        · have a00 : ¬ a = 0 := fun h => hc ⟨h, by omega⟩
          have q2 : (a != 0) = true := by simpa using a00
          have HSL := show linS a b L = accT L k ++ (⟨#[32, 43, 32]⟩ ++ ftB a b) by unfold linS; rw [HHn.out, if_neg k00, if_neg a00]
          have hkp : 0 < k := by omega
          have HRES := hide (show Lib.join ((ptsL L k ++ [ftB a b]).map (·.data.toList)) [32, 43, 32] = (linS a b L).data.toList by
            rw [HSL, List.map_append, List.map_cons, List.map_nil, join_snoc _ _ _ (by intro h; have := congrArg List.length h; rw [List.length_map, HL.out] at this; exact k00 this), join_pts L k hkp, app_data, app_data, List.append_assoc])
          have HSIZ := hide (show (linS a b L).size ≤ 1000 by rw [HSL, size_app, size_app]; have e : (⟨#[32, 43, 32]⟩ : ByteArray).size = 3 := rfl; have := HS.out; omega)
          clear HSL hc a00 k00 hf
          go_wp2_with fail
          (with_reducible refine (HTx _).mono ?_)
          rintro e w1 ⟨rfl, hb1⟩
          have z1 := hb1.size
          have HH1 := hide (HU.out.later hb1)
          go_wp2_with (at_builtin; refine wpList_append_lies _ (by rfl) (.tmp 36) (.tmp 40) _ (by rfl) wV.heap.size 9 i0 _ 1 16 Try.underlying84 hi hzA hzB hzC rfl (by decide) _ _ _ (by rfl) (HH1.out.own.alloc _) ⟨w1.heap.size, 0, none⟩ 1 1 [.string (ftB a b)] (by rfl) rfl (World.news_of_block (heap_alloc_new w1 _)) (by intro u hu; simp at hu; rcases hu with rfl; rfl) (by decide) (by simp only [maxLen]; omega) (by omega) (by simp; omega) (w1.heap.size + 1) (by simp) ?_; intro g' cap' w3 hown hgrow hat hlt3)
          have HU2 := HH1.out.grown ((Below.refl _ _).alloc (Nat.le_refl _) _) hown hgrow (hat.imp id (fun e => by omega))
          have own2 : w3.ownsRow wV.heap.size 9 1 (.slice (some ⟨g', 0, none⟩) (k + 1) cap') (k + 1) ((ptsL L k ++ [ftB a b]).map .string) := by rw [List.map_append]; exact HU2.own
          obtain ⟨g2, e2, hg2, hcv, hcell⟩ := own_join own2 (by rw [List.length_append, HL.out]; rfl) (by omega)
          obtain rfl : g' = g2 := by simpa using e2
          have HJ := join_r g' cap' (k + 1) _ (linS a b L) (by rw [List.length_append, HL.out]; rfl) (by omega) HRES.out (by have := HSIZ.out; omega) w3 hcell hg2 hcv
          have HBB := hide HU2.below
          clear HU2 own2 hcell hown hgrow hat e2
          (with_reducible refine HJ.mono ?_)
          rintro e w9 ⟨rfl, hb9⟩
          have z9 := HBB.out.size
          go_wp2
          go_ret
          exact ⟨by rw [HR.out]; rfl, HBB.out.trans (hb9.mono (by omega))⟩
end Go.Proofs.Ythojgmhionekbaa
