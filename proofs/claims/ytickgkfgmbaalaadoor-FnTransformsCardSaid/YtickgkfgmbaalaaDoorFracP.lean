/-
  PLAIN: the fraction of a text: parsing by decimals, and by digits of ten places at most, agree where the text comes back; and the text of a valid fraction is read back. Conditions: none.
-/
import Derived.Test.YtickgkfgmbaalaaDoorCutP
import Derived.Test.YtickgkfgmbaalaaDoorFText
namespace Go.Proofs.YtickgkfgmbaalaaDoor
open Go.RowKit Go.Sort
set_option linter.unusedVariables false

theorem byteAt_mk (l : List UInt8) (k : Nat) : byteAt ⟨l.toArray⟩ k = ((l.getD k 0).toNat : Int) := rfl
theorem isDg_I {c : UInt8} (h : isDg c = true) : dgI (c.toNat : Int) = true := by
  have := isDg_le h
  unfold dgI
  apply decide_eq_true
  omega
theorem allN_of {p : Nat → Bool} : ∀ n, (∀ k, k < n → p k = true) → allN p n = true
  | 0, _ => rfl
  | n + 1, h => by
    unfold allN
    rw [allN_of n (fun k hk => h k (by omega)), h n (by omega)]; rfl
theorem dgs_list {l : List UInt8} (h : l.all isDg = true) : dgs ⟨l.toArray⟩ l.length = true := by
  unfold dgs
  apply allN_of
  intro k hk
  rw [byteAt_mk, List.getD_eq_getElem?_getD, List.getElem?_eq_getElem hk]
  exact isDg_I (List.all_eq_true.1 h _ (List.getElem_mem hk))
theorem vN_list {l : List UInt8} (h : l.all isDg = true) : ∀ k, k ≤ l.length → vN ⟨l.toArray⟩ k = (valL (l.take k) : Int)
  | 0, _ => rfl
  | k + 1, hk => by
    have hk' : k < l.length := by omega
    have h1 := vN_list h k (by omega)
    have hd := isDg_le (List.all_eq_true.1 h _ (List.getElem_mem hk'))
    rw [vN, h1, List.take_succ_eq_append_getElem hk', valL_snoc, byteAt_mk, List.getD_eq_getElem?_getD, List.getElem?_eq_getElem hk']
    simp only [Option.getD_some]
    omega
theorem size_mk (l : List UInt8) : ByteArray.size ⟨l.toArray⟩ = l.length := by simp [ByteArray.size]
/-- what stands in a decimal text -/
theorem dec_parts (n : Int) : rs (decB n) = ⟨(digs n.natAbs).toArray⟩ ∧ ng (decB n) = decide (n < 0) := by
  have hne := digs_ne n.natAbs
  have hall := digs_all n.natAbs
  by_cases h : n < 0
  · have e : (decB n).data.toList = 45 :: digs n.natAbs := by
      unfold decB decL; rw [if_pos h]
    unfold rs ng
    rw [e, decide_eq_true h]
    exact ⟨rfl, rfl⟩
  · have e : (decB n).data.toList = digs n.natAbs := by
      unfold decB decL; rw [if_neg h]
    unfold rs ng
    rw [e, decide_eq_false h]
    cases hl : digs n.natAbs with
    | nil => exact absurd hl hne
    | cons x r =>
      have hx : x ≠ 45 := by
        intro e2
        rw [hl] at hall
        have := List.all_eq_true.1 hall x (by simp)
        rw [e2] at this
        exact absurd this (by decide)
      rw [bareL_ne hx, negL_ne hx]
      exact ⟨rfl, rfl⟩
/-- the value of a decimal text -/
theorem rdV_dec (n : Int) : rdV (decB n) = n := by
  obtain ⟨e1, e2⟩ := dec_parts n
  have hv := vN_list (digs_all n.natAbs) (digs n.natAbs).length (Nat.le_refl _)
  rw [List.take_length, valL_digs] at hv
  unfold rdV
  rw [e1, e2, size_mk, hv]
  by_cases h : n < 0
  · rw [if_pos (decide_eq_true h)]; omega
  · rw [if_neg (by simpa using h)]; omega
theorem rdAll_dec {n : Int} (h0 : -1000000000 ≤ n) (h1 : n ≤ 1000000000) : 1 ≤ (rs (decB n)).size ∧ (rs (decB n)).size ≤ 10 ∧ dgs (rs (decB n)) (rs (decB n)).size = true := by
  obtain ⟨e1, _⟩ := dec_parts n
  obtain ⟨h2, h3⟩ := digs_len (n := n.natAbs) (k := 10) (by decide) (by omega)
  rw [e1, size_mk]
  exact ⟨h2, h3, dgs_list (digs_all _)⟩
theorem rdOk_dec {n : Int} (h0 : -1000000000 ≤ n) (h1 : n ≤ 1000000000) : rdOk (decB n) = true := by
  obtain ⟨h2, h3, h4⟩ := rdAll_dec h0 h1
  unfold rdOk rdAll
  rw [decide_eq_true h2, decide_eq_true (by omega), h4, rdV_dec, decide_eq_true rfl]; rfl
theorem dec_bytes2 {n : Int} {k : Nat} (hk : k < (decB n).size) : byteAt (decB n) k ≠ 47 ∧ byteAt (decB n) k ≠ 44 := by
  have h : dgs (rs (decB n)) (rs (decB n)).size = true := by
    obtain ⟨e1, _⟩ := dec_parts n
    rw [e1, size_mk]
    exact dgs_list (digs_all _)
  have := dec_bytes h k hk
  omega
/-- a text of ten digits at most, a minus ahead or not -/
def l2Ok (s : ByteArray) : Bool := decide (1 ≤ (rs s).size) && decide ((rs s).size ≤ 10) && dgs (rs s) (rs s).size
def l2T (s : ByteArray) : Value := if l2Ok s then .tuple #[.int .i64 (rdV s), .bool true] else .tuple #[.int .i64 0, .bool false]
theorem l2_dec {n : Int} (h0 : -1000000000 ≤ n) (h1 : n ≤ 1000000000) : l2Ok (decB n) = true := by
  obtain ⟨h2, h3, h4⟩ := rdAll_dec h0 h1
  unfold l2Ok
  rw [decide_eq_true h2, decide_eq_true h3, h4]; rfl
theorem rdOk_e : rdOk ⟨#[]⟩ = false := by unfold rdOk rdAll; rfl
theorem l2Ok_e : l2Ok ⟨#[]⟩ = false := by unfold l2Ok; rfl
/-- the two parts of a fraction's text -/
def hdF (s : ByteArray) : ByteArray := if fstI s 47 = -1 then s else s.extract 0 (fstI s 47).toNat
def dnF (s : ByteArray) : ByteArray := if fstI s 47 = -1 then ⟨#[49]⟩ else s.extract ((fstI s 47).toNat + 1) s.size
def rfN (s : ByteArray) : Int := rdV (hdF s)
def rfD (s : ByteArray) : Int := rdV (dnF s)
def rfOk (s : ByteArray) : Bool := okFr (rfN s) (rfD s) && decide (ftB (rfN s) (rfD s) = s)
def rfF : Value := .tuple #[.agg #[.int .i64 0, .int .i64 0], .bool false]
def rfT (s : ByteArray) : Value := if rfOk s then .tuple #[.agg #[.int .i64 (rfN s), .int .i64 (rfD s)], .bool true] else rfF
theorem dnF_one : (⟨#[49]⟩ : ByteArray) = decB 1 := by
  have h : digs0 1 = [49] := by rw [digs0_pos (by decide), digs0_zero]; rfl
  unfold decB decL digs
  rw [if_neg (by decide)]
  show _ = (⟨(if (1 : Nat) = 0 then [48] else digs0 1).toArray⟩ : ByteArray)
  rw [if_neg (by decide), h]
theorem byteAt_app_l (a b : ByteArray) {k : Nat} (h : k < a.size) : byteAt (a ++ b) k = byteAt a k := by
  obtain ⟨⟨l⟩⟩ := a
  obtain ⟨⟨m⟩⟩ := b
  have e : (⟨⟨l⟩⟩ ++ ⟨⟨m⟩⟩ : ByteArray).data.toList = l ++ m := by simp
  have h' : k < l.length := by simpa [ByteArray.size] using h
  unfold byteAt
  rw [e]
  simp [List.getD_eq_getElem?_getD, List.getElem?_append_left h']
theorem byteAt_mid (a b : ByteArray) (c : UInt8) : byteAt (a ++ ⟨#[c]⟩ ++ b) a.size = (c.toNat : Int) := by
  obtain ⟨⟨l⟩⟩ := a
  obtain ⟨⟨m⟩⟩ := b
  have e : (⟨⟨l⟩⟩ ++ ⟨#[c]⟩ ++ ⟨⟨m⟩⟩ : ByteArray).data.toList = l ++ (c :: m) := by simp
  unfold byteAt
  rw [e]
  simp [List.getD_eq_getElem?_getD, ByteArray.size]
theorem ext_app_l (a b : ByteArray) (c : UInt8) : (a ++ ⟨#[c]⟩ ++ b).extract 0 a.size = a := by
  obtain ⟨⟨l⟩⟩ := a
  obtain ⟨⟨m⟩⟩ := b
  apply ByteArray.ext
  simp [ByteArray.size]
theorem ext_app_r (a b : ByteArray) (c : UInt8) : (a ++ ⟨#[c]⟩ ++ b).extract (a.size + 1) (a ++ ⟨#[c]⟩ ++ b).size = b := by
  obtain ⟨⟨l⟩⟩ := a
  obtain ⟨⟨m⟩⟩ := b
  apply ByteArray.ext
  simp [ByteArray.size]
  exact List.take_of_length_le (by omega)
/-- the first such byte is the one that stands between -/
theorem fst_app {a b : ByteArray} {c : UInt8} (h : ∀ k, k < a.size → byteAt a k ≠ (c.toNat : Int)) : fstI (a ++ ⟨#[c]⟩ ++ b) c = a.size := by
  have hm := byteAt_mid a b c
  have hz : a.size < (a ++ ⟨#[c]⟩ ++ b).size := by
    obtain ⟨⟨l⟩⟩ := a
    obtain ⟨⟨m⟩⟩ := b
    simp [ByteArray.size]
  rcases fst_cases (a ++ ⟨#[c]⟩ ++ b) c with h1 | ⟨i, h1⟩
  · exact absurd hm (fst_none h1 _ hz)
  · obtain ⟨h2, h3, h4⟩ := fst_some h1
    rw [h1]
    have : ¬ i < a.size := by
      intro h5
      rw [ByteArray.append_assoc, byteAt_app_l _ _ h5] at h3
      exact h i h5 h3
    have : ¬ a.size < i := fun h5 => h4 _ h5 hm
    omega
/-- where the text comes back, its parts are the decimals -/
theorem rf_parts {s : ByteArray} (h : rfOk s = true) : hdF s = decB (rfN s) ∧ dnF s = decB (rfD s) := by
  unfold rfOk at h
  simp only [Bool.and_eq_true, decide_eq_true_eq] at h
  obtain ⟨hk, ht⟩ := h
  unfold ftB at ht
  split at ht
  · rename_i h1
    have hm : fstI s 47 = -1 := by
      rcases fst_cases s 47 with h2 | ⟨i, h2⟩
      · exact h2
      · obtain ⟨h3, h4, _⟩ := fst_some h2
        rw [← ht] at h3 h4
        exact absurd h4 (dec_bytes2 h3).1
    refine ⟨?_, ?_⟩
    · rw [ht]; unfold hdF; rw [if_pos hm]
    · rw [h1]; unfold dnF; rw [if_pos hm]; exact dnF_one
  · have hm : fstI s 47 = (decB (rfN s)).size := by
      have := fst_app (a := decB (rfN s)) (b := decB (rfD s)) (c := 47) (fun k hk => (dec_bytes2 hk).1)
      rwa [ht] at this
    have e1 := ext_app_l (decB (rfN s)) (decB (rfD s)) 47
    have e2 := ext_app_r (decB (rfN s)) (decB (rfD s)) 47
    rw [ht] at e1 e2
    refine ⟨?_, ?_⟩
    · unfold hdF; rw [if_neg (by omega), hm]; exact e1
    · unfold dnF; rw [if_neg (by omega), hm]; exact e2
theorem okFr_bd {n d : Int} (h : okFr n d = true) : -1000000000 ≤ n ∧ n ≤ 1000000000 ∧ 1 ≤ d ∧ d ≤ 1000000 := by
  obtain ⟨a, b, c, e, _⟩ := okFr_t h
  exact ⟨c, e, a, b⟩
theorem rf_all {s : ByteArray} (h : rfOk s = true) : rdOk (hdF s) = true ∧ rdOk (dnF s) = true ∧ l2Ok (hdF s) = true ∧ l2Ok (dnF s) = true := by
  obtain ⟨e1, e2⟩ := rf_parts h
  have hk : okFr (rfN s) (rfD s) = true := by
    unfold rfOk at h; simp only [Bool.and_eq_true] at h; exact h.1
  obtain ⟨b1, b2, b3, b4⟩ := okFr_bd hk
  rw [e1, e2]
  exact ⟨rdOk_dec b1 b2, rdOk_dec (by omega) (by omega), l2_dec b1 b2, l2_dec (by omega) (by omega)⟩
/-- the text comes back, and it is not empty: the fraction is valid -/
theorem rf_text {s : ByteArray} (h : fracText (rfN s) (rfD s) = s) (he : s ≠ ⟨#[]⟩) : rfOk s = true := by
  unfold fracText at h
  split at h
  · rename_i hk
    unfold rfOk; rw [hk, decide_eq_true h]; rfl
  · exact absurd h.symm he
theorem rf_no {s : ByteArray} (h : fracText (rfN s) (rfD s) ≠ s) : rfOk s = false := by
  cases hr : rfOk s
  · rfl
  · unfold rfOk at hr
    simp only [Bool.and_eq_true, decide_eq_true_eq] at hr
    exact absurd (by unfold fracText; rw [if_pos hr.1]; exact hr.2) h
theorem rdOk_ne {s : ByteArray} (h : rdOk s = true) : s ≠ ⟨#[]⟩ := by
  intro e; rw [e, rdOk_e] at h; cases h
theorem l2Ok_ne {s : ByteArray} (h : l2Ok s = true) : s ≠ ⟨#[]⟩ := by
  intro e; rw [e, l2Ok_e] at h; cases h
theorem hdF_e : hdF ⟨#[]⟩ = ⟨#[]⟩ := rfl
/-- the text of a valid fraction is read back -/
theorem rf_back {n d : Int} (h : okFr n d = true) : rfOk (fracText n d) = true ∧ rfN (fracText n d) = n ∧ rfD (fracText n d) = d := by
  have e : fracText n d = ftB n d := by unfold fracText; rw [if_pos h]
  rw [e]
  have hp : hdF (ftB n d) = decB n ∧ dnF (ftB n d) = decB d := by
    unfold ftB
    split
    · rename_i h1
      have hm : fstI (decB n) 47 = -1 := by
        rcases fst_cases (decB n) 47 with h2 | ⟨i, h2⟩
        · exact h2
        · obtain ⟨h3, h4, _⟩ := fst_some h2
          exact absurd h4 (dec_bytes2 h3).1
      unfold hdF dnF
      rw [if_pos hm, if_pos hm, h1]
      exact ⟨rfl, dnF_one⟩
    · have hm := fst_app (a := decB n) (b := decB d) (c := 47) (fun k hk => (dec_bytes2 hk).1)
      unfold hdF dnF
      rw [if_neg (by omega), if_neg (by omega), hm]
      exact ⟨ext_app_l _ _ _, ext_app_r _ _ _⟩
  have hn : rfN (ftB n d) = n := by unfold rfN; rw [hp.1, rdV_dec]
  have hd : rfD (ftB n d) = d := by unfold rfD; rw [hp.2, rdV_dec]
  refine ⟨?_, hn, hd⟩
  unfold rfOk
  rw [hn, hd, h, decide_eq_true rfl]; rfl
/-- the text of a point is read back -/
theorem rp_back {x y : Int} (h : okPt x y = true) (h0 : -1000000000 ≤ x ∧ x ≤ 1000000000 ∧ -1000000000 ≤ y ∧ y ≤ 1000000000) : rpT (decB x ++ ⟨#[44]⟩ ++ decB y) = .tuple #[.agg #[.int .i64 x, .int .i64 y], .bool true] := by
  obtain ⟨b1, b2, b3, b4⟩ := h0
  have hm := fst_app (a := decB x) (b := decB y) (c := 44) (fun k hk => (dec_bytes2 hk).2)
  rw [rpT_hit hm, ext_app_l, ext_app_r]
  have e1 := rdOk_dec b1 b2
  have e2 := rdOk_dec b3 b4
  have e3 : rdN (decB x) = x := by unfold rdN; rw [if_pos e1, rdV_dec]
  have e4 : rdN (decB y) = y := by unfold rdN; rw [if_pos e2, rdV_dec]
  rw [e1, e2, e3, e4, h]; rfl
end Go.Proofs.YtickgkfgmbaalaaDoor
