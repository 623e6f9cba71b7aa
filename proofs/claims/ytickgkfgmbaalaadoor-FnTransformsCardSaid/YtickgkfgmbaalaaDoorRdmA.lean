/-
  CONTRACT of ReadMap of package impl (with strings.Split at one blank, affineOf). Conditions: a text of at most 1048576 bytes; internal/bytealg.MaxLen holds some integer.
-/
import Derived.Test.YtickgkfgmbaalaaDoorSplB
import Derived.Test.YtickgkfgmbaalaaDoorRfs
import Derived.Test.YtickgkfgmbaalaaDoorAff
import Derived.Test.YtickgkfgmbaalaaDoorGrow
import Derived.Shelf.Strings.Split
namespace Go.Proofs.YtickgkfgmbaalaaDoor
open Go.RowKit Go.Sort Go.Shelf
set_option linter.unusedVariables false
attribute [local go_sem] cell_grow frozen_grow
theorem part_le (s : ByteArray) (b : Int) (hz : s.size ≤ 1048576) : ∀ x, x ∈ splitOf s b → x.size ≤ 1048576 := by
  have h : ∀ k x, x ∈ wsS s b k → x.size ≤ 1048576 := by
    intro k
    induction k with
    | zero => intro x hx; simp [wsS] at hx
    | succ k ih =>
      intro x hx
      rw [wsS] at hx
      split at hx
      · rcases List.mem_append.1 hx with h | h
        · exact ih x h
        · rw [List.mem_singleton.1 h]; exact ext_le2 _ _ _ hz
      · exact ih x hx
  intro x hx
  unfold splitOf at hx
  rcases List.mem_append.1 hx with h1 | h1
  · exact h _ x h1
  · rw [List.mem_singleton.1 h1]; exact ext_le2 _ _ _ hz
theorem getD_mem {L : List ByteArray} {k : Nat} (hk : k < L.length) : L.getD k ⟨#[]⟩ ∈ L := by
  rw [List.getD_eq_getElem?_getD, List.getElem?_eq_getElem hk]
  exact List.getElem_mem _
/-- what ReadMap yields of six words -/
def rmW (L : List ByteArray) (k : Nat) : ByteArray := L.getD k ⟨#[]⟩
def rmOk (L : List ByteArray) : Bool := decide (L.length = 6) && allN (fun k => rfOk (rmW L k)) 6
def rmV (L : List ByteArray) : Value := affV (rfN (rmW L 0)) (rfD (rmW L 0)) (rfN (rmW L 1)) (rfD (rmW L 1)) (rfN (rmW L 2)) (rfD (rmW L 2)) (rfN (rmW L 3)) (rfD (rmW L 3)) (rfN (rmW L 4)) (rfD (rmW L 4)) (rfN (rmW L 5)) (rfD (rmW L 5))
def rmZ : Value := affV 0 0 0 0 0 0 0 0 0 0 0 0
def rmT (L : List ByteArray) : Value := if rmOk L then .tuple #[rmV L, .bool true] else .tuple #[rmZ, .bool false]
theorem rm_len {L : List ByteArray} (h : ¬ L.length = 6) : rmT L = .tuple #[rmZ, .bool false] := by
  unfold rmT rmOk
  rw [decide_eq_false h]; rfl
theorem rm_bad {L : List ByteArray} {k : Nat} (hk : k < 6) (h : rfOk (rmW L k) = false) : rmT L = .tuple #[rmZ, .bool false] := by
  unfold rmT rmOk
  rw [allN_f (p := fun k => rfOk (rmW L k)) h _ hk, Bool.and_false]; rfl
theorem rm_ok {L : List ByteArray} (h : L.length = 6) (h2 : allN (fun k => rfOk (rmW L k)) 6 = true) : rmT L = .tuple #[rmV L, .bool true] := by
  unfold rmT rmOk
  rw [decide_eq_true h, h2]; rfl
/-- the cells of the array when k words have been read -/
def arrC (L : List ByteArray) (k : Nat) : Array Value := #[.int .i64 (if 0 < k then rfN (rmW L 0) else 0), .int .i64 (if 0 < k then rfD (rmW L 0) else 0), .int .i64 (if 1 < k then rfN (rmW L 1) else 0), .int .i64 (if 1 < k then rfD (rmW L 1) else 0), .int .i64 (if 2 < k then rfN (rmW L 2) else 0), .int .i64 (if 2 < k then rfD (rmW L 2) else 0), .int .i64 (if 3 < k then rfN (rmW L 3) else 0), .int .i64 (if 3 < k then rfD (rmW L 3) else 0), .int .i64 (if 4 < k then rfN (rmW L 4) else 0), .int .i64 (if 4 < k then rfD (rmW L 4) else 0), .int .i64 (if 5 < k then rfN (rmW L 5) else 0), .int .i64 (if 5 < k then rfD (rmW L 5) else 0)]
theorem arrC_next {L : List ByteArray} {k : Nat} (hk : k < 6) : ((arrC L k).setIfInBounds (k * 2) (.int .i64 (rfN (rmW L k)))).setIfInBounds (k * 2 + 1) (.int .i64 (rfD (rmW L k))) = arrC L (k + 1) := by
  rcases (show k = 0 ∨ k = 1 ∨ k = 2 ∨ k = 3 ∨ k = 4 ∨ k = 5 by omega) with rfl | rfl | rfl | rfl | rfl | rfl <;> simp [arrC]
theorem arrC_some {L : List ByteArray} {k j : Nat} (hj : j < 12) : ∃ n : Int, (arrC L k)[j]? = some (.int .i64 n) := by
  rcases (show j = 0 ∨ j = 1 ∨ j = 2 ∨ j = 3 ∨ j = 4 ∨ j = 5 ∨ j = 6 ∨ j = 7 ∨ j = 8 ∨ j = 9 ∨ j = 10 ∨ j = 11 by omega) with rfl | rfl | rfl | rfl | rfl | rfl | rfl | rfl | rfl | rfl | rfl | rfl <;> exact ⟨_, rfl⟩
theorem info_strR : (Tryd.prog.info? 9).map (fun i => (i.zero, i.size, i.bytes)) = some (some (.string ByteArray.empty), 1, 16) := by kernel_rfl
def split146_ren : Go.Shelf.Ren := ⟨fun | 146 => 23 | 221 => 50 | 268 => 71 | 138 => 72 | 143 => 73 | 195 => 84 | 197 => 85 | 218 => 86 | 219 => 87 | 260 => 91 | 217 => 92 | 225 => 93 | 224 => 94 | 267 => 95 | 266 => 97 | 314 => 98 | n => n, fun | 9 => 9 | 31 => 49 | 3 => 3 | 4 => 4 | 0 => 0 | 105 => 119 | 21 => 21 | 5 => 5 | 46 => 125 | 119 => 128 | 139 => 131 | 138 => 130 | 146 => 133 | 51 => 132 | n => n, fun | 1 => 0 | 3 => 1 | 4 => 2 | n => n⟩
theorem split146 : Go.Proofs.Lays.n146 Tryd.prog split146_ren := {
  mixed := by kernel_rfl
  f138 := Tryd.func72.trans (congrArg some (by kernel_rfl))
  f143 := Tryd.func73.trans (congrArg some (by kernel_rfl))
  f146 := Tryd.func23.trans (congrArg some (by kernel_rfl))
  f195 := Tryd.func84.trans (congrArg some (by kernel_rfl))
  f197 := Tryd.func85.trans (congrArg some (by kernel_rfl))
  f217 := Tryd.func92.trans (congrArg some (by kernel_rfl))
  f218 := Tryd.func86.trans (congrArg some (by kernel_rfl))
  f219 := Tryd.func87.trans (congrArg some (by kernel_rfl))
  f221 := Tryd.func50.trans (congrArg some (by kernel_rfl))
  f224 := Tryd.func94.trans (congrArg some (by kernel_rfl))
  f225 := Tryd.func93.trans (congrArg some (by kernel_rfl))
  f260 := Tryd.func91.trans (congrArg some (by kernel_rfl))
  f266 := Tryd.func97.trans (congrArg some (by kernel_rfl))
  f267 := Tryd.func95.trans (congrArg some (by kernel_rfl))
  f268 := Tryd.func71.trans (congrArg some (by kernel_rfl))
  f314 := Tryd.func98.trans (congrArg some (by kernel_rfl))
  t0 := Tryd.underlying0
  a0 := Tryd.isAgg0
  z0 := Tryd.sizeOf0
  v0 := Tryd.zeroValue0
  t3 := Tryd.underlying3
  a3 := Tryd.isAgg3
  z3 := Tryd.sizeOf3
  v3 := Tryd.zeroValue3
  t4 := Tryd.underlying4
  a4 := Tryd.isAgg4
  z4 := Tryd.sizeOf4
  v4 := Tryd.zeroValue4
  t5 := Tryd.underlying5
  a5 := Tryd.isAgg5
  z5 := Tryd.sizeOf5
  v5 := Tryd.zeroValue5
  t9 := Tryd.underlying9
  a9 := Tryd.isAgg9
  z9 := Tryd.sizeOf9
  v9 := Tryd.zeroValue9
  t21 := Tryd.underlying21
  a21 := Tryd.isAgg21
  z21 := Tryd.sizeOf21
  v21 := Tryd.zeroValue21
  t31 := Tryd.underlying49
  a31 := Tryd.isAgg49
  z31 := Tryd.sizeOf49
  v31 := Tryd.zeroValue49
  t46 := Tryd.underlying125
  a46 := Tryd.isAgg125
  z46 := Tryd.sizeOf125
  v46 := Tryd.zeroValue125
  t51 := Tryd.underlying132
  a51 := Tryd.isAgg132
  z51 := Tryd.sizeOf132
  v51 := Tryd.zeroValue132
  t105 := Tryd.underlying119
  a105 := Tryd.isAgg119
  z105 := Tryd.sizeOf119
  v105 := Tryd.zeroValue119
  t119 := Tryd.underlying128
  a119 := Tryd.isAgg128
  z119 := Tryd.sizeOf128
  t138 := Tryd.underlying130
  a138 := Tryd.isAgg130
  z138 := Tryd.sizeOf130
  v138 := Tryd.zeroValue130
  t139 := Tryd.underlying131
  a139 := Tryd.isAgg131
  z139 := Tryd.sizeOf131
  v139 := Tryd.zeroValue131
  t146 := Tryd.underlying133
  a146 := Tryd.isAgg133
  z146 := Tryd.sizeOf133
  v146 := Tryd.zeroValue133
  g1 := by kernel_rfl
  g3 := by kernel_rfl
  g4 := by kernel_rfl }
theorem split_any (s : ByteArray) (hz : s.size ≤ 1048576) (m : Int) (w : World) (hm : w.cell? ⟨0, 0, none⟩ = some (.int .i64 m)) : Calls Tryd.prog 23 #[.string s, .string ⟨#[32]⟩] w fun e w' => e = .returned (.slice (some ⟨w.heap.size, 0, none⟩) (splitOf s 32).length (splitOf s 32).length) ∧ w' = w.alloc (.cells ((splitOf s 32).map Value.string).toArray 9) := by
  have h := Any.strings_Split split146 info_strR s sep32 m w (by omega) hm (by decide)
  have e := splitB_of (Lib.countB s sep32) s rfl
  have el := Lib.splitB_all sep32 (by decide) 0 _ s rfl
  rw [e] at h el
  rw [← el] at h
  exact h
set_option maxRecDepth 100000 in
set_option maxHeartbeats 8000000 in
theorem affineOf_any (a b c d e f g h i j k l : Int) (w : World) : Calls Tryd.prog 25 #[affV a b c d e f g h i j k l] w fun E w' => E = .returned (affV a b c d e f g h i j k l) ∧ Below w.heap.size w w' := by
  unfold affV
  go_enter Tryd.func25, Tryd.ntmps25
  go_wp2
  refine bodyPost_ret (v := affV a b c d e f g h i j k l) ?_ rfl ⟨rfl, (by repeat (first | (with_reducible refine bl_set ?_ (by simp <;> omega) _) | (with_reducible refine bl_alloc ?_ (Nat.le_refl _) _) | (with_reducible refine Below.drew ?_) | (with_reducible assumption) | (with_reducible exact Below.refl _ _)))⟩
  simp (maxDischargeDepth := 9) [affV, results, Tryd.results25, go_sem]
end Go.Proofs.YtickgkfgmbaalaaDoor
