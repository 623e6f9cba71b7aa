/-
  CONTRACTS of MapText (packages impl and spec), and the walk of the law FnExactMapText. Conditions: integers of 64 bits.
-/
import Derived.Test.YtickgkfgmbaalaaDoorMapDet
import Derived.Test.YtickgkfgmbaalaaDoorFText
import Derived.Test.YtickgkfgmbaalaaDoorJoin
namespace Go.Proofs.YtickgkfgmbaalaaDoor
open Go.RowKit Go.Sort
set_option linter.unusedVariables false
attribute [local go_sem] cell_grow frozen_grow
def mpL (m : Af) : List F2 := [m.xx, m.xy, m.yx, m.yy, m.dx, m.dy]
def ptT (m : Af) (k : Nat) : ByteArray := ftB ((mpL m).getD k (0, 0)).1 ((mpL m).getD k (0, 0)).2
def txts (m : Af) : List ByteArray := [ptT m 0, ptT m 1, ptT m 2, ptT m 3, ptT m 4, ptT m 5]
/-- the texts so far, a blank between each two -/
def mtS (m : Af) : Nat → ByteArray
  | 0 => ⟨#[]⟩
  | 1 => ⟨#[]⟩ ++ ptT m 0
  | k + 2 => mtS m (k + 1) ++ ⟨#[32]⟩ ++ ptT m (k + 1)
def mapT (m : Af) : ByteArray := if okAf m then mtS m 6 else ⟨#[]⟩
theorem app_size (a b : ByteArray) : (a ++ b).size = a.size + b.size := by
  obtain ⟨⟨l⟩⟩ := a
  obtain ⟨⟨m⟩⟩ := b
  simp [ByteArray.size]
theorem ftB_size {n d : Int} (h : okFr n d = true) : (ftB n d).size ≤ 41 := by
  obtain ⟨a, b, c, e, _⟩ := okFr_t h
  have h1 := decB_size (n := n) (by omega) (by omega)
  have h2 := decB_size (n := d) (by omega) (by omega)
  unfold ftB
  split
  · omega
  · rw [app_size, app_size]
    have : (⟨#[47]⟩ : ByteArray).size = 1 := rfl
    omega
theorem mp_ok {m : Af} (h : okAf m = true) (k : Nat) (hk : k < 6) : okFr ((mpL m).getD k (0, 0)).1 ((mpL m).getD k (0, 0)).2 = true := by
  obtain ⟨v0, v1, v2, v3, v4, v5⟩ := okAf_t h
  have : k = 0 ∨ k = 1 ∨ k = 2 ∨ k = 3 ∨ k = 4 ∨ k = 5 := by omega
  rcases this with rfl | rfl | rfl | rfl | rfl | rfl <;> assumption
theorem mtS_size {m : Af} (h : okAf m = true) : ∀ k, k ≤ 6 → (mtS m k).size ≤ 42 * k
  | 0, _ => by simp [mtS, ByteArray.size]
  | 1, _ => by
    have := ftB_size (mp_ok h 0 (by omega))
    rw [mtS, app_size]
    have e : (⟨#[]⟩ : ByteArray).size = 0 := rfl
    unfold ptT
    omega
  | k + 2, hk => by
    have := ftB_size (mp_ok h (k + 1) (by omega))
    have := mtS_size h (k + 1) (by omega)
    rw [mtS, app_size, app_size]
    have e : (⟨#[32]⟩ : ByteArray).size = 1 := rfl
    unfold ptT
    omega
theorem data_app (a b : ByteArray) : (a ++ b).data.toList = a.data.toList ++ b.data.toList := by
  obtain ⟨⟨l⟩⟩ := a
  obtain ⟨⟨m⟩⟩ := b
  simp
theorem join_mtS (m : Af) : (⟨(Lib.join ((txts m).map (·.data.toList)) (⟨#[32]⟩ : ByteArray).data.toList).toArray⟩ : ByteArray) = mtS m 6 := by
  apply ByteArray.ext
  apply Array.toList_inj.mp
  show Lib.join ((txts m).map (·.data.toList)) [32] = (mtS m 6).data.toList
  unfold txts
  simp only [mtS, data_app, List.map_cons, List.map_nil]
  simp [Lib.join, List.intercalate, List.intersperse]
theorem mk6 : ∀ w, (Instr.makeSlice 49 (.int .i64 0) (.int .i64 6)).run Tryd.prog w = .ok (.slice (some ⟨w.heap.size, 0, none⟩) 0 6) (w.alloc (.cells #[.string ⟨#[]⟩, .string ⟨#[]⟩, .string ⟨#[]⟩, .string ⟨#[]⟩, .string ⟨#[]⟩, .string ⟨#[]⟩] 9)) := fun _ => by kernel_rfl
theorem ix0 (a0 a1 a2 a3 a4 a5 a6 a7 a8 a9 a10 a11 : Value) (w : World) : (Instr.index 56 (.agg #[a0, a1, a2, a3, a4, a5, a6, a7, a8, a9, a10, a11]) (.int .i64 0)).run Tryd.prog w = .ok (.agg #[a0, a1]) w := by kernel_rfl
theorem ix1 (a0 a1 a2 a3 a4 a5 a6 a7 a8 a9 a10 a11 : Value) (w : World) : (Instr.index 56 (.agg #[a0, a1, a2, a3, a4, a5, a6, a7, a8, a9, a10, a11]) (.int .i64 1)).run Tryd.prog w = .ok (.agg #[a2, a3]) w := by kernel_rfl
theorem ix2 (a0 a1 a2 a3 a4 a5 a6 a7 a8 a9 a10 a11 : Value) (w : World) : (Instr.index 56 (.agg #[a0, a1, a2, a3, a4, a5, a6, a7, a8, a9, a10, a11]) (.int .i64 2)).run Tryd.prog w = .ok (.agg #[a4, a5]) w := by kernel_rfl
theorem ix3 (a0 a1 a2 a3 a4 a5 a6 a7 a8 a9 a10 a11 : Value) (w : World) : (Instr.index 56 (.agg #[a0, a1, a2, a3, a4, a5, a6, a7, a8, a9, a10, a11]) (.int .i64 3)).run Tryd.prog w = .ok (.agg #[a6, a7]) w := by kernel_rfl
theorem ix4 (a0 a1 a2 a3 a4 a5 a6 a7 a8 a9 a10 a11 : Value) (w : World) : (Instr.index 56 (.agg #[a0, a1, a2, a3, a4, a5, a6, a7, a8, a9, a10, a11]) (.int .i64 4)).run Tryd.prog w = .ok (.agg #[a8, a9]) w := by kernel_rfl
theorem ix5 (a0 a1 a2 a3 a4 a5 a6 a7 a8 a9 a10 a11 : Value) (w : World) : (Instr.index 56 (.agg #[a0, a1, a2, a3, a4, a5, a6, a7, a8, a9, a10, a11]) (.int .i64 5)).run Tryd.prog w = .ok (.agg #[a10, a11]) w := by kernel_rfl
theorem info_strM : (Tryd.prog.info? 9).map (fun i => (i.zero, i.size, i.bytes)) = some (some (.string ⟨#[]⟩), 1, 16) := by kernel_rfl
set_option maxRecDepth 100000 in
set_option maxHeartbeats 4000000 in
theorem parts_i (m : Af) (w : World) : Calls Tryd.prog 37 #[afV m] w fun e w' => e = .returned (afV m) ∧ Below w.heap.size w w' := by
  simp only [afV, affV]
  go_enter Tryd.func37, Tryd.ntmps37
  go_wp2
  refine bodyPost_ret (v := afV m) ?_ rfl ⟨rfl, (by repeat (first | (with_reducible refine bl_set ?_ (by simp <;> omega) _) | (with_reducible refine bl_alloc ?_ (Nat.le_refl _) _) | (with_reducible refine Below.drew ?_) | (with_reducible assumption) | (with_reducible exact Below.refl _ _)))⟩
  simp (maxDischargeDepth := 9) [results, Tryd.results37, go_sem, afV, affV, *]
theorem fracText_ok {n d : Int} (h : okFr n d = true) : fracText n d = ftB n d := by unfold fracText; rw [h]; rfl
theorem own_capM {w : World} {B n g c : Nat} {t : TypeId} {xs : List Value} {sz : Nat} (h : w.ownsRow B t sz (.slice (some ⟨g, 0, none⟩) n c) n xs) : n ≤ c := by
  rcases h.2 with ⟨h', _⟩ | ⟨g', cap', cur, h', _, _, hc, _⟩
  · simp at h'
  · injection h' with _ _ h3; omega
set_option maxRecDepth 100000 in
set_option maxHeartbeats 16000000 in
theorem mapText_i (m : Af) (hin : AfIn m) (w : World) : Calls Tryd.prog 13 #[afV m] w fun e w' => e = .returned (.string (mapT m)) ∧ Below w.heap.size w w' := by
  obtain ⟨i0, hi, hzA, hzB, hzC⟩ := info_parts info_strM
  have HVA := validAffine_i m hin
  have HPA := parts_i m
  simp only [afV, affV] at HVA HPA ⊢
  cases h1 : okAf m
  · have HT := hide (show mapT m = ⟨#[]⟩ by unfold mapT; rw [h1]; rfl)
    go_enter Tryd.func13, Tryd.ntmps13
    go_wp2_with (first | (go_at_call 35; (with_reducible refine (HVA _).mono ?_); rintro e w1 ⟨rfl, hb1⟩; obtain ⟨hc1, hf1⟩ := bcell hb1; have hw1 : Below w.heap.size w w1 := bl_call (by repeat (first | exact Below.refl _ _ | assumption | (refine bl_alloc ?_ (Nat.le_refl _) _) | (refine bl_set ?_ (by simp <;> omega) _))) hb1; have hz1 : w.heap.size + 1 ≤ w1.heap.size := (by have hq := hb1.size; have hr := hw1.size; (try simp at hq); omega); have hza : w.heap.size < w1.heap.size := (by omega); have hz4 := hb1.size; (try simp at hz4); (try have hz5 := Nat.lt_of_succ_le hz4)))
    go_ret
    exact ⟨by rw [HT.out]; rfl, (by repeat (first | exact Below.refl _ _ | assumption | (refine bl_alloc ?_ (Nat.le_refl _) _) | (refine bl_set ?_ (by simp <;> omega) _)))⟩
  have HT := hide (show mapT m = mtS m 6 by unfold mapT; rw [h1]; rfl)
  have hmk := mk6
  go_enter Tryd.func13, Tryd.ntmps13
  go_wp2_with (first | (go_at_call 35; (with_reducible refine (HVA _).mono ?_); rintro e w1 ⟨rfl, hb1⟩; obtain ⟨hc1, hf1⟩ := bcell hb1; have hw1 : Below w.heap.size w w1 := bl_call (by repeat (first | exact Below.refl _ _ | assumption | (refine bl_alloc ?_ (Nat.le_refl _) _) | (refine bl_set ?_ (by simp <;> omega) _))) hb1; have hz1 : w.heap.size + 1 ≤ w1.heap.size := (by have hq := hb1.size; have hr := hw1.size; (try simp at hq); omega); have hza : w.heap.size < w1.heap.size := (by omega); have hz4 := hb1.size; (try simp at hz4); (try have hz5 := Nat.lt_of_succ_le hz4); obtain ⟨wV, rfl⟩ : ∃ wV : World, wV = w1 := ⟨_, rfl⟩) | (go_at_call 37; (with_reducible refine (HPA _).mono ?_); rintro e w1 ⟨rfl, hb1⟩; obtain ⟨hc1, hf1⟩ := bcell hb1; have hw1 : Below w.heap.size w w1 := bl_call (by repeat (first | exact Below.refl _ _ | assumption | (refine bl_alloc ?_ (Nat.le_refl _) _) | (refine bl_set ?_ (by simp <;> omega) _))) hb1; have hz1 : w.heap.size + 1 ≤ w1.heap.size := (by have hq := hb1.size; have hr := hw1.size; (try simp at hq); omega); have hza : w.heap.size < w1.heap.size := (by omega); have hz4 := hb1.size; (try simp at hz4); (try have hz5 := Nat.lt_of_succ_le hz4); (try have hzxwV : wV.heap.size < w1.heap.size := (by omega)); obtain ⟨wP, rfl⟩ : ∃ wP : World, wP = w1 := ⟨_, rfl⟩))
  obtain ⟨v0, v1, v2, v3, v4, v5⟩ := okAf_t h1
  have hbP : Below (wV.alloc (.cells #[.string ⟨#[]⟩, .string ⟨#[]⟩, .string ⟨#[]⟩, .string ⟨#[]⟩, .string ⟨#[]⟩, .string ⟨#[]⟩] 9)).heap.size (wV.alloc (.cells #[.string ⟨#[]⟩, .string ⟨#[]⟩, .string ⟨#[]⟩, .string ⟨#[]⟩, .string ⟨#[]⟩, .string ⟨#[]⟩] 9)) wP := by assumption
  have oL := (hbP.block wV.heap.size (by simp)).trans (ug_new wV _ rfl)
  have bV : Below w.heap.size w wV := by assumption
  have bP : Below w.heap.size w wP := by assumption
  have zP := hbP.size
  simp at zP
  have zV := bV.size
  clear hbP
  go_loopw [3, 12] (fun v iv wr => ∃ k g cap : Nat, k ≤ 6 ∧ iv = .int .i64 k ∧ v = .slice (some ⟨g, 0, none⟩) k cap ∧ Hid (Under 9 1 wV.heap.size (.slice (some ⟨g, 0, none⟩) k cap) k (((txts m).take k).map .string) w wP wr)) (fun _ iv _ => 6 - (intOf iv).toNat)
  case atStart => exact ⟨0, wV.heap.size, 6, by omega, rfl, rfl, Under.start ⟨rfl, .inr ⟨wV.heap.size, 6, _, rfl, Nat.le_refl _, oL, by omega, by decide, rfl, rfl⟩⟩ (fun k hk => by simp [Value.ownBlock] at hk; exact hk.symm) zV (by omega) bP⟩
  case round =>
    obtain ⟨k, g, cap, hk, rfl, rfl, hU⟩ := hrel
    clear oL bV bP
    have hsz := hU.out.size
    have hlt := (hU.out.own.lt g rfl).2
    by_cases hkn : k < 6
    · have hj : k = 0 ∨ k = 1 ∨ k = 2 ∨ k = 3 ∨ k = 4 ∨ k = 5 := by omega
      rcases hj with rfl | rfl | rfl | rfl | rfl | rfl
      · have HF := fracText_i m.xx.1 m.xx.2 (okF_I v0).1 (okF_I v0).2
        have hix := @ix0
        rw [fracText_ok v0] at HF
        go_wp2_with fail
        (with_reducible refine (HF _).mono ?_)
        rintro e wN ⟨rfl, hbN⟩
        have hun := hide ((hU.out.later ((Below.refl _ _).alloc (Nat.le_refl _) _)).later hbN)
        have hsN := hbN.size
        simp at hsN
        go_wp2_with (at_builtin; refine wpList_append_lies _ (by rfl) (.tmp 15) (.tmp 18) _ (by rfl) wV.heap.size 9 i0 _ 1 16 Tryd.underlying49 hi hzA hzB hzC rfl (by decide) _ _ _ (by rfl) (hun.out.own.alloc _) ⟨wN.heap.size, 0, none⟩ 1 1 [.string (ftB m.xx.1 m.xx.2)] (by rfl) rfl (World.news_of_block (heap_alloc_new wN _)) (by intro u hu; simp at hu; rcases hu with rfl; rfl) (by decide) (by simp only [maxLen]; omega) (by omega) (by simp; omega) (wN.heap.size + 1) (by simp) ?_; intro g' cap' w3 hown hgrow hat hlt3)
        have HU3 := hun.out.grown ((Below.refl _ _).alloc (Nat.le_refl _) _) hown hgrow (hat.imp id (fun e => by omega))
        go_roundw
        case rel => exact ⟨1, g', cap', by omega, by go_num, by rfl, HU3⟩
        case measure => simp [intOf]
      · have HF := fracText_i m.xy.1 m.xy.2 (okF_I v1).1 (okF_I v1).2
        have hix := @ix1
        rw [fracText_ok v1] at HF
        go_wp2_with fail
        (with_reducible refine (HF _).mono ?_)
        rintro e wN ⟨rfl, hbN⟩
        have hun := hide ((hU.out.later ((Below.refl _ _).alloc (Nat.le_refl _) _)).later hbN)
        have hsN := hbN.size
        simp at hsN
        go_wp2_with (at_builtin; refine wpList_append_lies _ (by rfl) (.tmp 15) (.tmp 18) _ (by rfl) wV.heap.size 9 i0 _ 1 16 Tryd.underlying49 hi hzA hzB hzC rfl (by decide) _ _ _ (by rfl) (hun.out.own.alloc _) ⟨wN.heap.size, 0, none⟩ 1 1 [.string (ftB m.xy.1 m.xy.2)] (by rfl) rfl (World.news_of_block (heap_alloc_new wN _)) (by intro u hu; simp at hu; rcases hu with rfl; rfl) (by decide) (by simp only [maxLen]; omega) (by omega) (by simp; omega) (wN.heap.size + 1) (by simp) ?_; intro g' cap' w3 hown hgrow hat hlt3)
        have HU3 := hun.out.grown ((Below.refl _ _).alloc (Nat.le_refl _) _) hown hgrow (hat.imp id (fun e => by omega))
        go_roundw
        case rel => exact ⟨2, g', cap', by omega, by go_num, by rfl, HU3⟩
        case measure => simp [intOf]
      · have HF := fracText_i m.yx.1 m.yx.2 (okF_I v2).1 (okF_I v2).2
        have hix := @ix2
        rw [fracText_ok v2] at HF
        go_wp2_with fail
        (with_reducible refine (HF _).mono ?_)
        rintro e wN ⟨rfl, hbN⟩
        have hun := hide ((hU.out.later ((Below.refl _ _).alloc (Nat.le_refl _) _)).later hbN)
        have hsN := hbN.size
        simp at hsN
        go_wp2_with (at_builtin; refine wpList_append_lies _ (by rfl) (.tmp 15) (.tmp 18) _ (by rfl) wV.heap.size 9 i0 _ 1 16 Tryd.underlying49 hi hzA hzB hzC rfl (by decide) _ _ _ (by rfl) (hun.out.own.alloc _) ⟨wN.heap.size, 0, none⟩ 1 1 [.string (ftB m.yx.1 m.yx.2)] (by rfl) rfl (World.news_of_block (heap_alloc_new wN _)) (by intro u hu; simp at hu; rcases hu with rfl; rfl) (by decide) (by simp only [maxLen]; omega) (by omega) (by simp; omega) (wN.heap.size + 1) (by simp) ?_; intro g' cap' w3 hown hgrow hat hlt3)
        have HU3 := hun.out.grown ((Below.refl _ _).alloc (Nat.le_refl _) _) hown hgrow (hat.imp id (fun e => by omega))
        go_roundw
        case rel => exact ⟨3, g', cap', by omega, by go_num, by rfl, HU3⟩
        case measure => simp [intOf]
      · have HF := fracText_i m.yy.1 m.yy.2 (okF_I v3).1 (okF_I v3).2
        have hix := @ix3
        rw [fracText_ok v3] at HF
        go_wp2_with fail
        (with_reducible refine (HF _).mono ?_)
        rintro e wN ⟨rfl, hbN⟩
        have hun := hide ((hU.out.later ((Below.refl _ _).alloc (Nat.le_refl _) _)).later hbN)
        have hsN := hbN.size
        simp at hsN
        go_wp2_with (at_builtin; refine wpList_append_lies _ (by rfl) (.tmp 15) (.tmp 18) _ (by rfl) wV.heap.size 9 i0 _ 1 16 Tryd.underlying49 hi hzA hzB hzC rfl (by decide) _ _ _ (by rfl) (hun.out.own.alloc _) ⟨wN.heap.size, 0, none⟩ 1 1 [.string (ftB m.yy.1 m.yy.2)] (by rfl) rfl (World.news_of_block (heap_alloc_new wN _)) (by intro u hu; simp at hu; rcases hu with rfl; rfl) (by decide) (by simp only [maxLen]; omega) (by omega) (by simp; omega) (wN.heap.size + 1) (by simp) ?_; intro g' cap' w3 hown hgrow hat hlt3)
        have HU3 := hun.out.grown ((Below.refl _ _).alloc (Nat.le_refl _) _) hown hgrow (hat.imp id (fun e => by omega))
        go_roundw
        case rel => exact ⟨4, g', cap', by omega, by go_num, by rfl, HU3⟩
        case measure => simp [intOf]
      · have HF := fracText_i m.dx.1 m.dx.2 (okF_I v4).1 (okF_I v4).2
        have hix := @ix4
        rw [fracText_ok v4] at HF
        go_wp2_with fail
        (with_reducible refine (HF _).mono ?_)
        rintro e wN ⟨rfl, hbN⟩
        have hun := hide ((hU.out.later ((Below.refl _ _).alloc (Nat.le_refl _) _)).later hbN)
        have hsN := hbN.size
        simp at hsN
        go_wp2_with (at_builtin; refine wpList_append_lies _ (by rfl) (.tmp 15) (.tmp 18) _ (by rfl) wV.heap.size 9 i0 _ 1 16 Tryd.underlying49 hi hzA hzB hzC rfl (by decide) _ _ _ (by rfl) (hun.out.own.alloc _) ⟨wN.heap.size, 0, none⟩ 1 1 [.string (ftB m.dx.1 m.dx.2)] (by rfl) rfl (World.news_of_block (heap_alloc_new wN _)) (by intro u hu; simp at hu; rcases hu with rfl; rfl) (by decide) (by simp only [maxLen]; omega) (by omega) (by simp; omega) (wN.heap.size + 1) (by simp) ?_; intro g' cap' w3 hown hgrow hat hlt3)
        have HU3 := hun.out.grown ((Below.refl _ _).alloc (Nat.le_refl _) _) hown hgrow (hat.imp id (fun e => by omega))
        go_roundw
        case rel => exact ⟨5, g', cap', by omega, by go_num, by rfl, HU3⟩
        case measure => simp [intOf]
      · have HF := fracText_i m.dy.1 m.dy.2 (okF_I v5).1 (okF_I v5).2
        have hix := @ix5
        rw [fracText_ok v5] at HF
        go_wp2_with fail
        (with_reducible refine (HF _).mono ?_)
        rintro e wN ⟨rfl, hbN⟩
        have hun := hide ((hU.out.later ((Below.refl _ _).alloc (Nat.le_refl _) _)).later hbN)
        have hsN := hbN.size
        simp at hsN
        go_wp2_with (at_builtin; refine wpList_append_lies _ (by rfl) (.tmp 15) (.tmp 18) _ (by rfl) wV.heap.size 9 i0 _ 1 16 Tryd.underlying49 hi hzA hzB hzC rfl (by decide) _ _ _ (by rfl) (hun.out.own.alloc _) ⟨wN.heap.size, 0, none⟩ 1 1 [.string (ftB m.dy.1 m.dy.2)] (by rfl) rfl (World.news_of_block (heap_alloc_new wN _)) (by intro u hu; simp at hu; rcases hu with rfl; rfl) (by decide) (by simp only [maxLen]; omega) (by omega) (by simp; omega) (wN.heap.size + 1) (by simp) ?_; intro g' cap' w3 hown hgrow hat hlt3)
        have HU3 := hun.out.grown ((Below.refl _ _).alloc (Nat.le_refl _) _) hown hgrow (hat.imp id (fun e => by omega))
        go_roundw
        case rel => exact ⟨6, g', cap', by omega, by go_num, by rfl, HU3⟩
        case measure => simp [intOf]
    · obtain rfl : k = 6 := by omega
      have HJ : Calls Tryd.prog 39 #[.slice (some ⟨g, 0, none⟩) 6 cap, .string ⟨#[32]⟩] wr _ := join_any g cap (txts m) ⟨#[32]⟩ wr (fun j x hx => by
        have hj : j < 6 := (List.getElem?_eq_some_iff.1 hx).1
        have := hU.out.own.cellAt j (by omega)
        rw [Nat.zero_add, this, List.getElem?_map, show (txts m).take 6 = txts m from rfl, hx]; rfl) hlt (by show 6 ≤ _; decide) (own_capM hU.out.own) (by
        have h2 := mtS_size h1 6 (by omega)
        rw [← join_mtS] at h2
        have h3 : ∀ l : List UInt8, (⟨l.toArray⟩ : ByteArray).size = l.length := fun l => by simp [ByteArray.size]
        rw [h3] at h2
        omega)
      rw [join_mtS] at HJ
      have hbr := hU.out.below
      have hbs := hbr.size
      go_wp2_with fail
      (with_reducible refine HJ.mono ?_)
      rintro e wE ⟨rfl, hbE⟩
      go_wp2
      go_ret
      exact ⟨by rw [HT.out]; rfl, hbr.trans (hbE.mono (by omega))⟩
end Go.Proofs.YtickgkfgmbaalaaDoor
