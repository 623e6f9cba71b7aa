/-
  CONTRACTS of impl.Decimal and of spec.l01Dec, spec.Decimal: the text of a number, at every number of 64 bits; no cell that was there is written. And the walk of their law. Conditions: none.
-/
import Derived.Test.YtickgkfgmbaalaaDoorBase
import Derived.Test.YtickgkfgmbaalaaDoorDig
import Derived.Laws.BytesArg
import Derived.Laws.AppendOwn
namespace Go.Proofs.YtickgkfgmbaalaaDoor
open Go.RowKit Go.Sort
set_option linter.unusedVariables false
attribute [local go_sem] cell_grow frozen_grow

theorem cell_blk0 {w : World} {g : Nat} {t : TypeId} {cs : Array Value} (h : w.heap[g]? = some (.cells cs t (0, 0))) (i : Nat) : w.cell? ⟨g, i, none⟩ = cs[i]? := cell_of_row w g i cs t (0, 0) h
theorem frozen_blk0 {w : World} {g : Nat} {t : TypeId} {cs : Array Value} (h : w.heap[g]? = some (.cells cs t (0, 0))) (i : Nat) : w.frozen? ⟨g, i, none⟩ = false := by simp [World.frozen?, h]
theorem heap_set0 {w : World} {g : Nat} {t : TypeId} {cs : Array Value} {fr : Nat × Nat} (h : w.heap[g]? = some (.cells cs t fr)) (i : Nat) (u : Value) : (w.setCell ⟨g, i, none⟩ u).heap[g]? = some (.cells (cs.setIfInBounds i u) t fr) := by
  simp [World.setCell, Array.getElem?_modify, h]
theorem u64wd (n : Int) : IntKind.u64.wrap n = n % 18446744073709551616 := by
  simp [IntKind.wrap, IntKind.bits, IntKind.signed]
theorem abs_negd {n : Int} (h : n < 0) (h0 : -9223372036854775808 ≤ n) : IntKind.u64.wrap (-(IntKind.u64.wrap n)) = (n.natAbs : Int) := by
  rw [u64wd, u64wd]; omega

/-- bytes as values -/
def bvs (l : List UInt8) : List Value := l.map fun c => .int .u8 (c.toNat : Int)
theorem strOf_bytes (l : List UInt8) : strOfNums (l.map fun c => (c.toNat : Int)) = ⟨l.toArray⟩ := by
  unfold strOfNums
  congr 2
  rw [List.map_map]
  conv => rhs; rw [← List.map_id l]
  apply List.map_congr_left
  intro c _
  simp
/-- the last bytes of a row of twenty are l -/
def Ends (w : World) (g : Nat) (t : TypeId) (k : Nat) (l : List UInt8) : Prop := ∃ cs : Array Value, w.heap[g]? = some (.cells cs t (0, 0)) ∧ cs.size = 20 ∧ cs.toList.drop k = bvs l
theorem Ends.cell {w : World} {g k : Nat} {t : TypeId} {l : List UInt8} (h : Ends w g t k l) (i : Nat) (hi : i < 20) : ∃ v, w.cell? ⟨g, i, none⟩ = some v := by
  obtain ⟨cs, h1, h2, _⟩ := h
  exact ⟨cs[i]'(by omega), by rw [cell_blk0 h1]; exact Array.getElem?_eq_getElem (by omega)⟩
theorem Ends.frozen {w : World} {g k : Nat} {t : TypeId} {l : List UInt8} (h : Ends w g t k l) (i : Nat) : w.frozen? ⟨g, i, none⟩ = false := by
  obtain ⟨cs, h1, _⟩ := h
  exact frozen_blk0 h1 i
theorem Ends.put {w : World} {g k : Nat} {t : TypeId} {l : List UInt8} (h : Ends w g t (k + 1) l) (hk : k < 20) (c : UInt8) : Ends (w.setCell ⟨g, k, none⟩ (.int .u8 (c.toNat : Int))) g t k (c :: l) := by
  obtain ⟨cs, h1, h2, h3⟩ := h
  refine ⟨_, heap_set0 h1 k _, by simpa using h2, ?_⟩
  rw [List.drop_eq_getElem_cons (by simp; omega)]
  simp only [Array.toList_setIfInBounds, List.getElem_set_self]
  rw [List.drop_set_of_lt (by omega), h3]
  rfl
theorem Ends.text {P : Program} {w : World} {g k : Nat} {t te dst src : TypeId} {l : List UInt8} (h : Ends w g t k l) (hk : k ≤ 20) (hl : l.length = 20 - k)
    (hs : P.underlying src = some (.slice te)) (he : P.underlying te = some (.int .u8)) (hd : P.underlying dst = some .string) (cap : Nat) :
    (convert src dst (.slice (some ⟨g, k, none⟩) (20 - k) cap)).run P w = .ok (.string ⟨l.toArray⟩) w := by
  obtain ⟨cs, h1, h2, h3⟩ := h
  rw [← strOf_bytes]
  refine run_convert_bytes_arg w src te hs he g k (20 - k) cap _ (by simpa using hl) (fun i hi => ?_) dst hd
  rw [cell_blk0 h1]
  have h4 : (cs.toList.drop k)[i]? = (bvs l)[i]? := by rw [h3]
  rw [List.getElem?_drop] at h4
  have hil : i < l.length := by omega
  rw [← Array.getElem?_toList, h4]
  unfold bvs
  simp [List.getElem?_eq_getElem hil, List.getD]
theorem dg_val (u : Nat) : 48 + (u : Int) % 10 = ((dg (u % 10)).toNat : Int) := by
  rw [dg_toNat (Nat.mod_lt _ (by omega))]; omega
theorem digs_step {u : Nat} (h : u / 10 ≠ 0) : digs u = digs (u / 10) ++ [dg (u % 10)] := by
  rw [digs_eq u]
  have : digs (u / 10) = digs0 (u / 10) := by unfold digs; rw [if_neg h]
  rw [this]
theorem digs_last {u : Nat} (h : u / 10 = 0) : digs u = [dg (u % 10)] := by rw [digs_eq u, h, digs0_zero]; rfl

theorem digs_room {N u m : Nat} {l : List UInt8} (hN : N ≤ 9223372036854775808) (hd : digs N = digs u ++ l) (hl : l.length = 19 - m) (hm : m < 20) : 1 ≤ m ∧ (u / 10 ≠ 0 → 2 ≤ m) := by
  have h1 := (digs_len (n := N) (k := 19) (by omega) (by omega)).2
  rw [hd, List.length_append] at h1
  have h2 := digs_ne u
  have h3 : 1 ≤ (digs u).length := by
    cases hc : digs u with
    | nil => exact absurd hc h2
    | cons a b => simp
  refine ⟨by omega, fun h => ?_⟩
  rw [digs_step h, List.length_append] at h1
  have h4 : 1 ≤ (digs (u / 10)).length := by
    cases hc : digs (u / 10) with
    | nil => exact absurd hc (digs_ne _)
    | cons a b => simp
  simp at h1
  omega

theorem dec_slice (m : Nat) (hm : m < 20) (b : Nat) (w : World) : (Instr.sliceAt 115 (.pointer (some ⟨b, 0, none⟩)) (some (.int .i64 (m : Int))) none none).run Tryd.prog w = .ok (.slice (some ⟨b, m, none⟩) (20 - m) (20 - m)) w := by
  have hA : Tryd.prog.arrayLen 115 = 20 := by kernel_rfl
  have hE : Tryd.prog.elem 115 = 5 := by kernel_rfl
  have hS : (sizeOf 5).run Tryd.prog w = .ok 1 w := by kernel_rfl
  rw [run_sliceAt_array_l w 115 ⟨b, 0, none⟩ (by rw [hA, hE]; exact Tryd.underlying115) .i64 (m : Int) (by omega) (by rw [hA]; omega), hA, hE, hS]
  simp only [Result.andThen_ok, slicedAt, Int.toNat_natCast]
  rw [if_neg (by omega)]
  simp [Addr.add]
  by_cases h0 : m = 0 <;> simp [h0]
set_option maxRecDepth 100000 in
set_option maxHeartbeats 1000000 in
theorem decimal_pos (n : Int) (h : 0 ≤ n) (h1 : n ≤ 9223372036854775807) (w : World) : Calls Tryd.prog 60 #[.int .i64 n] w fun e w' => e = .returned (.string (decB n)) ∧ Below w.heap.size w w' := by
  have hneg : decide (n < 0) = false := by simp; omega
  have HT := hide (show decB n = ⟨(digs n.natAbs).toArray⟩ by unfold decB decL; rw [if_neg (by omega)])
  have HN := hide (show n = (n.natAbs : Int) by omega)
  go_enter Tryd.func60, Tryd.ntmps60
  go_wp2
  go_loopw [4, 5] (fun p v wr => ∃ m u : Nat, ∃ l : List UInt8, p = .int .i64 ((m : Int) + 1) ∧ v = .int .u64 (u : Int) ∧ m < 20 ∧ u ≤ 9223372036854775808 ∧ l.length = 19 - m ∧ Below w.heap.size w wr ∧ Ends wr w.heap.size 115 (m + 1) l ∧ Hid (digs n.natAbs = digs u ++ l)) (fun p _ _ => (intOf p).toNat)
  case atStart => exact ⟨19, n.natAbs, [], rfl, by rw [← HN.out], by omega, by omega, rfl, (by repeat (first | exact Below.refl _ _ | assumption | (refine bl_alloc ?_ (Nat.le_refl _) _) | (refine bl_set ?_ (by simp <;> omega) _))), ⟨#[.int .u8 0, .int .u8 0, .int .u8 0, .int .u8 0, .int .u8 0, .int .u8 0, .int .u8 0, .int .u8 0, .int .u8 0, .int .u8 0, .int .u8 0, .int .u8 0, .int .u8 0, .int .u8 0, .int .u8 0, .int .u8 0, .int .u8 0, .int .u8 0, .int .u8 0, .int .u8 0], heap_alloc_new w _, rfl, rfl⟩, by unfold Hid; simp⟩
  case round =>
    obtain ⟨m, u, l, rfl, rfl, hm, hub, hl, hb, he, hd⟩ := hrel
    obtain ⟨v0, hc0⟩ := he.cell m hm
    have hf0 := he.frozen m
    obtain ⟨hm1, hm2⟩ := digs_room (N := n.natAbs) (by omega) hd.out hl hm
    have hp := he.put hm (dg (u % 10))
    rw [← dg_val] at hp
    have hb2 := bl_set hb (p := ⟨w.heap.size, m, none⟩) (Nat.le_refl _) (.int .u8 (48 + (u : Int) % 10))
    by_cases hu : u / 10 = 0
    · have q1 : ((u : Int) / 10 == 0) = true := by simp; omega
      have hsl := dec_slice m hm w.heap.size
      have hcv := hp.text (P := Tryd.prog) (dst := 9) (src := 30) (by omega) (by simp; omega) Tryd.underlying30 Tryd.underlying5 Tryd.underlying9 (20 - m)
      have HD := hide (show decB n = ⟨(dg (u % 10) :: l).toArray⟩ by rw [HT.out, hd.out, digs_last hu]; rfl)
      clear he hp hd hm2
      go_wp2
      go_ret
      exact ⟨by rw [HD.out]; rfl, hb2⟩
    · have q1 : ((u : Int) / 10 == 0) = false := by simp; omega
      have hm3 := hm2 hu
      have HD := hide (show digs n.natAbs = digs (u / 10) ++ (dg (u % 10) :: l) by rw [hd.out, digs_step hu]; simp)
      obtain ⟨k, rfl⟩ : ∃ k, m = k + 1 := ⟨m - 1, by omega⟩
      clear he hd hm2
      go_wp2
      go_roundw
      case rel => exact ⟨k, u / 10, dg (u % 10) :: l, by go_num, by go_num, by omega, by omega, by simp; omega, hb2, hp, HD⟩
      case measure => simp [intOf]; omega
set_option maxRecDepth 100000 in
set_option maxHeartbeats 1000000 in
theorem decimal_neg (n : Int) (h : n < 0) (h0 : -9223372036854775808 ≤ n) (w : World) : Calls Tryd.prog 60 #[.int .i64 n] w fun e w' => e = .returned (.string (decB n)) ∧ Below w.heap.size w w' := by
  have hneg : decide (n < 0) = true := by simp; omega
  have HT := hide (show decB n = ⟨(45 :: digs n.natAbs).toArray⟩ by unfold decB decL; rw [if_pos h])
  have HN := hide (abs_negd h h0)
  go_enter Tryd.func60, Tryd.ntmps60
  go_wp2
  go_loopw [4, 5] (fun p v wr => ∃ m u : Nat, ∃ l : List UInt8, p = .int .i64 ((m : Int) + 1) ∧ v = .int .u64 (u : Int) ∧ m < 20 ∧ u ≤ 9223372036854775808 ∧ l.length = 19 - m ∧ Below w.heap.size w wr ∧ Ends wr w.heap.size 115 (m + 1) l ∧ Hid (digs n.natAbs = digs u ++ l)) (fun p _ _ => (intOf p).toNat)
  case atStart => exact ⟨19, n.natAbs, [], rfl, by rw [HN.out], by omega, by omega, rfl, (by repeat (first | exact Below.refl _ _ | assumption | (refine bl_alloc ?_ (Nat.le_refl _) _) | (refine bl_set ?_ (by simp <;> omega) _))), ⟨#[.int .u8 0, .int .u8 0, .int .u8 0, .int .u8 0, .int .u8 0, .int .u8 0, .int .u8 0, .int .u8 0, .int .u8 0, .int .u8 0, .int .u8 0, .int .u8 0, .int .u8 0, .int .u8 0, .int .u8 0, .int .u8 0, .int .u8 0, .int .u8 0, .int .u8 0, .int .u8 0], heap_alloc_new w _, rfl, rfl⟩, by unfold Hid; simp⟩
  case round =>
    obtain ⟨m, u, l, rfl, rfl, hm, hub, hl, hb, he, hd⟩ := hrel
    obtain ⟨v0, hc0⟩ := he.cell m hm
    have hf0 := he.frozen m
    obtain ⟨hm1, hm2⟩ := digs_room (N := n.natAbs) (by omega) hd.out hl hm
    have hp := he.put hm (dg (u % 10))
    rw [← dg_val] at hp
    have hb2 := bl_set hb (p := ⟨w.heap.size, m, none⟩) (Nat.le_refl _) (.int .u8 (48 + (u : Int) % 10))
    obtain ⟨k, rfl⟩ : ∃ k, m = k + 1 := ⟨m - 1, by omega⟩
    by_cases hu : u / 10 = 0
    · have q1 : ((u : Int) / 10 == 0) = true := by simp; omega
      have hsl := dec_slice k (by omega) w.heap.size
      obtain ⟨v1, hc1⟩ := hp.cell k (by omega)
      have hf1 := hp.frozen k
      have hp2 := hp.put (by omega) 45
      have hb3 := bl_set hb2 (p := ⟨w.heap.size, k, none⟩) (Nat.le_refl _) (.int .u8 45)
      have hcv := hp2.text (P := Tryd.prog) (dst := 9) (src := 30) (by omega) (by simp; omega) Tryd.underlying30 Tryd.underlying5 Tryd.underlying9 (20 - k)
      have HD := hide (show decB n = ⟨(45 :: dg (u % 10) :: l).toArray⟩ by rw [HT.out, hd.out, digs_last hu]; rfl)
      have e45 : ((45 : UInt8).toNat : Int) = 45 := rfl
      rw [e45] at hcv
      clear he hp hp2 hd hm2
      go_wp2
      go_ret
      exact ⟨by rw [HD.out]; rfl, hb3⟩
    · have q1 : ((u : Int) / 10 == 0) = false := by simp; omega
      have hm3 := hm2 hu
      have HD := hide (show digs n.natAbs = digs (u / 10) ++ (dg (u % 10) :: l) by rw [hd.out, digs_step hu]; simp)
      clear he hd hm2
      go_wp2
      go_roundw
      case rel => exact ⟨k, u / 10, dg (u % 10) :: l, by go_num, by go_num, by omega, by omega, by simp; omega, hb2, hp, HD⟩
      case measure => simp [intOf]; omega
theorem decimal_i (n : Int) (h0 : -9223372036854775808 ≤ n) (h1 : n ≤ 9223372036854775807) (w : World) : Calls Tryd.prog 60 #[.int .i64 n] w fun e w' => e = .returned (.string (decB n)) ∧ Below w.heap.size w w' := by
  by_cases h : n < 0
  · exact decimal_neg n h h0 w
  · exact decimal_pos n (by omega) h1 w
/-! ### rows of the call's own -/
theorem own_new (w : World) (base : Nat) (E : TypeId) (x : Value) (hb : base ≤ w.heap.size) : (w.alloc (.cells #[x] E)).ownsRow base E 1 (.slice (some ⟨w.heap.size, 0, none⟩) 1 1) 1 [x] :=
  ⟨rfl, .inr ⟨w.heap.size, 1, #[x], rfl, hb, heap_alloc_new w _, Nat.le_refl _, by unfold maxLen; omega, rfl, rfl⟩⟩
theorem own_empty (w : World) (base : Nat) (E : TypeId) (hb : base ≤ w.heap.size) : (w.alloc (.cells #[] E)).ownsRow base E 1 (.slice (some ⟨w.heap.size, 0, none⟩) 0 0) 0 [] :=
  ⟨rfl, .inr ⟨w.heap.size, 0, #[], rfl, hb, heap_alloc_new w _, Nat.le_refl _, by unfold maxLen; omega, rfl, rfl⟩⟩
theorem own_form {w : World} {base : Nat} {E : TypeId} {v : Value} {n : Nat} {xs : List Value} (h : w.ownsRow base E 1 v n xs) : ∃ A c, v = .slice A n c := by
  rcases h.2 with ⟨rfl, rfl⟩ | ⟨g, cap, cur, rfl, _⟩
  · exact ⟨none, 0, rfl⟩
  · exact ⟨_, cap, rfl⟩
theorem own_cells {w : World} {base : Nat} {E : TypeId} {A : Option Addr} {n c : Nat} {xs : List Value} (h : w.ownsRow base E 1 (.slice A n c) n xs) (hn : 0 < n) : ∃ g, A = some ⟨g, 0, none⟩ ∧ base ≤ g ∧ g < w.heap.size ∧ ∀ j u, xs[j]? = some u → w.cell? ((⟨g, 0, none⟩ : Addr).add j) = some u := by
  obtain ⟨hlen, ⟨_, h0⟩ | ⟨g, cap, cur, hv, hbg, hh, hnc, _, hsz, htk⟩⟩ := h
  · omega
  · obtain rfl : A = some ⟨g, 0, none⟩ := by injection hv
    refine ⟨g, rfl, hbg, ?_, fun j u hu => ?_⟩
    · rcases Nat.lt_or_ge g w.heap.size with h1 | h1
      · exact h1
      · rw [Array.getElem?_eq_none h1] at hh; cases hh
    · have e : (⟨g, 0, none⟩ : Addr).add j = ⟨g, j, none⟩ := by unfold Addr.add; split <;> simp_all
      rw [e, cell_blk0 hh]
      rw [← htk] at hu
      have hj : j < n * 1 := by
        have := (List.getElem?_eq_some_iff.1 hu).1
        rw [List.length_take] at this
        omega
      rw [List.getElem?_take_of_lt hj] at hu
      simpa using hu
theorem own_src {w : World} {base : Nat} {E : TypeId} {g n c : Nat} {xs : List Value} (h : w.ownsRow base E 1 (.slice (some ⟨g, 0, none⟩) n c) n xs) (o : Obj) : ∀ j u, xs[j]? = some u → (w.alloc o).cell? ((⟨g, 0, none⟩ : Addr).add j) = some u := by
  intro j u hu
  have hl : j < xs.length := (List.getElem?_eq_some_iff.1 hu).1
  have hn : 0 < n := by have := h.1; omega
  obtain ⟨g', hg, _, hlt, hc⟩ := own_cells h hn
  obtain rfl : g = g' := by injection hg with e; injection e
  have hb : ((⟨g, 0, none⟩ : Addr).add j).block < w.heap.size := by
    have e : (⟨g, 0, none⟩ : Addr).add j = ⟨g, j, none⟩ := by unfold Addr.add; split <;> simp_all
    rw [e]; exact hlt
  exact (World.cell?_alloc_lt w o _ hb).trans (hc j u hu)
theorem own_some {w : World} {base : Nat} {E : TypeId} {v : Value} {n : Nat} {xs : List Value} (h : w.ownsRow base E 1 v n xs) (hn : 0 < n) : ∃ g c, v = .slice (some ⟨g, 0, none⟩) n c := by
  rcases h.2 with ⟨_, h0⟩ | ⟨g, cap, cur, rfl, _⟩
  · omega
  · exact ⟨g, cap, rfl⟩
theorem own_text {P : Program} {w : World} {base : Nat} {E src dst : TypeId} {A : Option Addr} {n c : Nat} {l : List UInt8} (h : w.ownsRow base E 1 (.slice A n c) n (bvs l)) (hl : n = l.length)
    (hs : P.underlying src = some (.slice E)) (he : P.underlying E = some (.int .u8)) (hd : P.underlying dst = some .string) :
    (convert src dst (.slice A n c)).run P w = .ok (.string ⟨l.toArray⟩) w := by
  rcases Nat.eq_zero_or_pos n with h0 | h0
  · subst h0
    have hle : l = [] := List.length_eq_zero_iff.1 hl.symm
    subst hle
    rcases h.2 with ⟨hv, _⟩ | ⟨g, cap, cur, hv, _⟩
    · obtain ⟨rfl, rfl⟩ : A = none ∧ c = 0 := by injection hv with a b c'; exact ⟨a, c'⟩
      exact run_convert_bytes_nil w src E hs he 0 0 dst hd
    · obtain rfl : A = some ⟨g, 0, none⟩ := by injection hv
      have := run_convert_bytes_arg w src E hs he g 0 0 c [] rfl (fun i hi => by omega) dst hd
      rw [this]; rfl
  · obtain ⟨g, rfl, _, _, hc⟩ := own_cells h h0
    rw [← strOf_bytes]
    refine run_convert_bytes_arg w src E hs he g 0 n c _ (by simpa using hl.symm) (fun i hi => ?_) dst hd
    have hil : i < l.length := by omega
    have h1 := hc i (.int .u8 (l[i].toNat : Int)) (by unfold bvs; simp [List.getElem?_eq_getElem hil])
    have e : (⟨g, 0, none⟩ : Addr).add i = ⟨g, 0 + i, none⟩ := by unfold Addr.add; split <;> simp_all
    rw [e] at h1
    rw [h1]
    simp [List.getD, List.getElem?_eq_getElem hil]
theorem bvs_one {l : List UInt8} : ∀ u ∈ bvs l, u.oneCell' = true := by
  intro u hu
  obtain ⟨c, _, rfl⟩ := List.mem_map.1 hu
  rfl

theorem info_u8 : (Tryd.prog.info? 5).map (fun i => (i.zero, i.size, i.bytes)) = some (some (.int .u8 0), 1, 1) := by kernel_rfl
set_option maxRecDepth 100000 in
set_option maxHeartbeats 1000000 in
theorem l01Dec_pos (n : Int) (h : 0 < n) (h1 : n ≤ 9223372036854775807) (w : World) : Calls Tryd.prog 83 #[.int .i64 n] w fun e w' => e = .returned (.string (decB n)) ∧ Below w.heap.size w w' := by
  obtain ⟨i0, hi, hz0, hz1, hz2⟩ := info_parts info_u8
  have Hi := hide hi
  have Hz := hide hz0
  have Hs := hide hz1
  have Hb := hide hz2
  clear hi hz0 hz1 hz2
  have HT := hide (show decB n = ⟨(digs0 n.natAbs).toArray⟩ by unfold decB decL digs; rw [if_neg (by omega), if_neg (by omega)])
  have HN := hide (show n = (n.natAbs : Int) by omega)
  have hlen := digs0_len 19 n.natAbs (by omega)
  go_enter Tryd.func83, Tryd.ntmps83
  go_wp2
  go_loopw [3, 4] (fun v k wr => ∃ u g c : Nat, ∃ l : List UInt8, k = .int .i64 (u : Int) ∧ u ≤ 9223372036854775807 ∧ v = .slice (some ⟨g, 0, none⟩) l.length c ∧ wr.ownsRow w.heap.size 5 1 v l.length (bvs l) ∧ Below w.heap.size w wr ∧ Hid (digs0 n.natAbs = digs0 u ++ l)) (fun _ k _ => (intOf k).toNat)
  case atStart => exact ⟨n.natAbs, w.heap.size, 0, [], by rw [← HN.out], by omega, rfl, own_empty w _ _ (Nat.le_refl _), (by repeat (first | exact Below.refl _ _ | assumption | (refine bl_alloc ?_ (Nat.le_refl _) _) | (refine bl_set ?_ (by simp <;> omega) _))), by unfold Hid; simp⟩
  case round =>
    obtain ⟨u, g, c, l, rfl, hu, rfl, hown, hb, hd⟩ := hrel
    by_cases h0 : u = 0
    · have hcv := own_text (P := Tryd.prog) (dst := 9) (src := 30) hown rfl Tryd.underlying30 Tryd.underlying5 Tryd.underlying9
      have HD := hide (show decB n = ⟨l.toArray⟩ by rw [HT.out, hd.out, h0, digs0_zero]; rfl)
      have hne : ((l.length : Int) == 0) = false := by
        have : l ≠ [] := by
          rintro rfl
          have h2 := hd.out
          rw [h0, digs0_zero, digs0_pos (by omega)] at h2
          simp at h2
        cases l with
        | nil => exact absurd rfl this
        | cons a b => simp; omega
      have hnn : decide (n < 0) = false := by simp; omega
      subst h0
      clear hown hd
      go_wp2
      go_ret
      exact ⟨by rw [HD.out]; rfl, hb⟩
    · have HD := hide (show digs0 n.natAbs = digs0 (u / 10) ++ (dg (u % 10) :: l) by rw [hd.out, digs0_pos h0]; simp)
      have hll : l.length ≤ 19 := by
        have h2 := hlen
        rw [hd.out, List.length_append] at h2
        omega
      have hk1 : ((u : Int) == 0) = false := by simp; omega
      have hk2 : ((u : Int) != 0) = true := by simp; omega
      have hdg := dg_val u
      have Hdg := hide hdg
      clear hdg hd
      have hq : 0 ≤ (u : Int) % 10 := by omega
      have Ho := hide hown
      have hll2 : 1 + l.length ≤ maxLen := by unfold maxLen; omega
      clear hown
      go_wp2_with (at_builtin; refine wpList_append_own _ rfl _ _ 30 rfl w.heap.size 5 i0 (.int .u8 0) 1 1 Tryd.underlying30 Hi.out Hz.out Hs.out Hb.out rfl (by decide) _ 1 _ rfl (own_new wr w.heap.size 5 (.int .u8 (48 + (u : Int) % 10)) hb.size) ⟨g, 0, none⟩ l.length c (bvs l) rfl (by simp [bvs]) (own_src Ho.out _) bvs_one hll2 (by omega) (by have := hb.size; simp; omega) ?_; intro v' w1 hown' hgrow _)
      have hb2 : Below w.heap.size w w1 := (hb.alloc hb.size _).grown hgrow (by have := hb.size; simp; omega) (fun k hk => by cases hk; exact hb.size)
      have hown2 : w1.ownsRow w.heap.size 5 1 v' (dg (u % 10) :: l).length (bvs (dg (u % 10) :: l)) := by
        rw [Hdg.out] at hown'
        rw [List.length_cons, Nat.add_comm]
        exact hown'
      obtain ⟨g2, c2, hv2⟩ := own_some hown2 (by simp)
      have Ho2 := hide hown2
      clear hown' hown2 hgrow
      subst hv2
      go_wp2
      go_roundw
      case rel => exact ⟨u / 10, g2, c2, dg (u % 10) :: l, by go_num, by omega, rfl, Ho2.out, hb2, HD⟩
      case measure => simp [intOf]; omega
set_option maxRecDepth 100000 in
set_option maxHeartbeats 1000000 in
theorem l01Dec_neg (n : Int) (h : n < 0) (hn0 : -9223372036854775808 ≤ n) (w : World) : Calls Tryd.prog 83 #[.int .i64 n] w fun e w' => e = .returned (.string (decB n)) ∧ Below w.heap.size w w' := by
  obtain ⟨i0, hi, hz0, hz1, hz2⟩ := info_parts info_u8
  have Hi := hide hi
  have Hz := hide hz0
  have Hs := hide hz1
  have Hb := hide hz2
  clear hi hz0 hz1 hz2
  have HT := hide (show decB n = ⟨(45 :: digs0 n.natAbs).toArray⟩ by unfold decB decL digs; rw [if_pos h, if_neg (by omega)])
  have HN := hide (show n = -(n.natAbs : Int) by omega)
  have hlen := digs0_len 19 n.natAbs (by omega)
  go_enter Tryd.func83, Tryd.ntmps83
  go_wp2
  go_loopw [3, 4] (fun v k wr => ∃ u g c : Nat, ∃ l : List UInt8, k = .int .i64 (-(u : Int)) ∧ u ≤ 9223372036854775808 ∧ v = .slice (some ⟨g, 0, none⟩) l.length c ∧ wr.ownsRow w.heap.size 5 1 v l.length (bvs l) ∧ Below w.heap.size w wr ∧ Hid (digs0 n.natAbs = digs0 u ++ l)) (fun _ k _ => (intOf k).natAbs)
  case atStart => exact ⟨n.natAbs, w.heap.size, 0, [], by rw [← HN.out], by omega, rfl, own_empty w _ _ (Nat.le_refl _), (by repeat (first | exact Below.refl _ _ | assumption | (refine bl_alloc ?_ (Nat.le_refl _) _) | (refine bl_set ?_ (by simp <;> omega) _))), by unfold Hid; simp⟩
  case round =>
    obtain ⟨u, g, c, l, rfl, hu, rfl, hown, hb, hd⟩ := hrel
    by_cases h0 : u = 0
    · have hcv := own_text (P := Tryd.prog) (dst := 9) (src := 30) hown rfl Tryd.underlying30 Tryd.underlying5 Tryd.underlying9
      have HD := hide (show decB n = ⟨(45 :: l).toArray⟩ by rw [HT.out, hd.out, h0, digs0_zero]; rfl)
      have hne : ((l.length : Int) == 0) = false := by
        have : l ≠ [] := by
          rintro rfl
          have h2 := hd.out
          rw [h0, digs0_zero, digs0_pos (by omega)] at h2
          simp at h2
        cases l with
        | nil => exact absurd rfl this
        | cons a b => simp; omega
      have hnn : decide (n < 0) = true := by simp; omega
      have hll : l.length ≤ 19 := by
        have h2 := hlen
        rw [hd.out, List.length_append] at h2
        omega
      have hcat := run_string_add_sum (P := Tryd.prog) wr ⟨#[45]⟩ ⟨l.toArray⟩ (by show 1 + l.length ≤ _; omega)
      subst h0
      clear hown hd
      go_wp2
      go_ret
      exact ⟨by rw [HD.out]; congr 2, hb⟩
    · have HD := hide (show digs0 n.natAbs = digs0 (u / 10) ++ (dg (u % 10) :: l) by rw [hd.out, digs0_pos h0]; simp)
      have hll : l.length ≤ 19 := by
        have h2 := hlen
        rw [hd.out, List.length_append] at h2
        omega
      have hk1 : (-(u : Int) == 0) = false := by simp; omega
      have hk2 : (-(u : Int) != 0) = true := by simp; omega
      have ht : (-(u : Int)).tmod 10 = -((u : Int) % 10) := by rw [Int.neg_tmod, Int.tmod_eq_emod_of_nonneg (by omega)]
      have hq : (-(u : Int)).tdiv 10 = -((u : Int) / 10) := by rw [Int.neg_tdiv, Int.tdiv_eq_ediv_of_nonneg (by omega)]
      have Hdg := hide (dg_val u)
      clear hd
      have hq0 : 0 ≤ (u : Int) % 10 := by omega
      have hq9 : (u : Int) % 10 ≤ 9 := by omega
      have hw0 : 0 ≤ (u : Int) / 10 := by omega
      have hw1 : (u : Int) / 10 ≤ 922337203685477580 := by omega
      by_cases hz : (u : Int) % 10 ≤ 0
      · have Ho := hide hown
        have hll2 : 1 + l.length ≤ maxLen := by unfold maxLen; omega
        clear hown
        go_wp2_with (at_builtin; refine wpList_append_own _ rfl _ _ 30 rfl w.heap.size 5 i0 (.int .u8 0) 1 1 Tryd.underlying30 Hi.out Hz.out Hs.out Hb.out rfl (by decide) _ 1 _ rfl (own_new wr w.heap.size 5 _ hb.size) ⟨g, 0, none⟩ l.length c (bvs l) rfl (by simp [bvs]) (own_src Ho.out _) bvs_one hll2 (by omega) (by have := hb.size; simp; omega) ?_; intro v' w1 hown' hgrow _)
        have hb2 : Below w.heap.size w w1 := (hb.alloc hb.size _).grown hgrow (by have := hb.size; simp; omega) (fun k hk => by cases hk; exact hb.size)
        have hown2 : w1.ownsRow w.heap.size 5 1 v' (dg (u % 10) :: l).length (bvs (dg (u % 10) :: l)) := by
          rw [show (48 + -((u : Int) % 10)) = ((dg (u % 10)).toNat : Int) by rw [← Hdg.out]; omega] at hown'
          rw [List.length_cons, Nat.add_comm]
          exact hown'
        obtain ⟨g2, c2, hv2⟩ := own_some hown2 (by simp)
        have Ho2 := hide hown2
        clear hown' hown2 hgrow
        subst hv2
        go_wp2
        go_roundw
        case rel => exact ⟨u / 10, g2, c2, dg (u % 10) :: l, by go_num, by omega, rfl, Ho2.out, hb2, HD⟩
        case measure => simp [intOf]; omega
      · have Ho := hide hown
        have hll2 : 1 + l.length ≤ maxLen := by unfold maxLen; omega
        clear hown
        go_wp2_with (at_builtin; refine wpList_append_own _ rfl _ _ 30 rfl w.heap.size 5 i0 (.int .u8 0) 1 1 Tryd.underlying30 Hi.out Hz.out Hs.out Hb.out rfl (by decide) _ 1 _ rfl (own_new wr w.heap.size 5 _ hb.size) ⟨g, 0, none⟩ l.length c (bvs l) rfl (by simp [bvs]) (own_src Ho.out _) bvs_one hll2 (by omega) (by have := hb.size; simp; omega) ?_; intro v' w1 hown' hgrow _)
        have hb2 : Below w.heap.size w w1 := (hb.alloc hb.size _).grown hgrow (by have := hb.size; simp; omega) (fun k hk => by cases hk; exact hb.size)
        have hown2 : w1.ownsRow w.heap.size 5 1 v' (dg (u % 10) :: l).length (bvs (dg (u % 10) :: l)) := by
          rw [Hdg.out] at hown'
          rw [List.length_cons, Nat.add_comm]
          exact hown'
        obtain ⟨g2, c2, hv2⟩ := own_some hown2 (by simp)
        have Ho2 := hide hown2
        clear hown' hown2 hgrow
        subst hv2
        go_wp2
        go_roundw
        case rel => exact ⟨u / 10, g2, c2, dg (u % 10) :: l, by go_num, by omega, rfl, Ho2.out, hb2, HD⟩
        case measure => simp [intOf]; omega
set_option maxRecDepth 100000 in
set_option maxHeartbeats 1000000 in
theorem l01Dec_zero (w : World) : Calls Tryd.prog 83 #[.int .i64 0] w fun e w' => e = .returned (.string (decB 0)) ∧ Below w.heap.size w w' := by
  have HD := hide (show decB 0 = ⟨#[48]⟩ by rfl)
  go_enter Tryd.func83, Tryd.ntmps83
  go_wp2
  refine wp_loop_rounds 1 ?_
  rw [rounds_succ]
  go_wp2
  go_ret
  exact ⟨by rw [HD.out]; rfl, (by repeat (first | exact Below.refl _ _ | assumption | (refine bl_alloc ?_ (Nat.le_refl _) _) | (refine bl_set ?_ (by simp <;> omega) _)))⟩
theorem decimal_s0 (n : Int) (h0 : -9223372036854775808 ≤ n) (h1 : n ≤ 9223372036854775807) (w : World) : Calls Tryd.prog 83 #[.int .i64 n] w fun e w' => e = .returned (.string (decB n)) ∧ Below w.heap.size w w' := by
  rcases Int.lt_trichotomy n 0 with h | h | h
  · exact l01Dec_neg n h h0 w
  · subst h; exact l01Dec_zero w
  · exact l01Dec_pos n h h1 w
theorem decB_size {n : Int} (h0 : -9223372036854775808 ≤ n) (h1 : n ≤ 9223372036854775807) : (decB n).size ≤ 20 := by
  have h := (digs_len (n := n.natAbs) (k := 19) (by omega) (by omega)).2
  show (decL n).toArray.size ≤ 20
  unfold decL
  split <;> simp <;> omega
end Go.Proofs.YtickgkfgmbaalaaDoor
