/-
  A LAW FOR REGIONS THAT DRAW THEIR ORDER AND MAKE ONE VARIABLE: loads, arithmetic and calls that leave what was there as it was (the head), one 'alloc' that waits for nothing, one store into it, then a tail in its one order. One walk of the head in the text's order serves every order: behind it the new variable lies in some new block. Conditions: those of the theorem.
  (Over the library's own notions of such regions: Derived/Still.lean, Derived/StillTail.lean, Derived/Deep/Quiet.lean.)
-/
import Derived.StillTail
import Derived.Deep.Quiet
import Derived.Lib.QuietBelow
import Derived.Below
import Derived.Laws.Rows
import Derived.Laws.Tables
import Derived.WalkKit
namespace Go.Proofs.YtickgkfgmbaalaaDoor
open Go Go.RowKit Go.Sort
set_option linter.unusedVariables false

section
variable {P : Program} {ops : Array Oper} {md : Region.Mode} {W : World}

/-- of what lay in w nothing has turned -/
def Keeps (w w' : World) : Prop := Below w.heap.size w w'
theorem keeps_of {f : FuncId} {args : Array Value} {w : World} {v : Value} (h : Calls P f args w fun e w' => e = .returned v ∧ Below w.heap.size w w') : Calls P f args w fun e w' => e = .returned v ∧ Keeps w w' := h
/-- in every world in which all that lay in W is as it was, operation 'o' leaves v, and what lay in that world as it was -/
def Steady (P : Program) (W : World) (ops : Array Oper) (o : Oper) (v : Value) (a : Act) : Prop :=
  (Region.wanted o (yielded ops a.tmps) = true ∧ ∀ p : Regrown, o.quietAt P a (Keeps (grow (redrawn W p.d) p.os)) (grow (redrawn W p.d) p.os) v) ∨
  (Region.wanted o (yielded ops a.tmps) = false ∧ v = undef)
theorem Steady.same {o : Oper} {v : Value} {a a' : Act} (hy : Steady P W ops o v a) (he : execOp a'.eval o = execOp a.eval o)
    (hw : Region.wanted o (yielded ops a'.tmps) = Region.wanted o (yielded ops a.tmps)) : Steady P W ops o v a' := by
  unfold Steady Oper.quietAt at *
  rw [he, hw]
  exact hy
theorem quietUpon_imp {C C' : World → Prop} {w : World} {v : Value} {r : Result Next} (h : ∀ x, C x → C' x) (hr : Oper.quietUpon P C w v r) : Oper.quietUpon P C' w v r := by
  cases r with
  | ok n w' => cases n with
    | value u => exact hr
    | skip => exact hr
    | enter f args => exact ⟨hr.1, hr.2.mono fun _ _ ⟨he, hc⟩ => ⟨he, h _ hc⟩⟩
    | _ => exact hr
  | halt x w' => exact hr
theorem Steady.qOp {j : Nat} {o : Oper} {v : Value} {a : Act} {w : World} (hj : ops[j]? = some o) (hy : Steady P W ops o v a) (hw : Below W.heap.size W w) :
    qOp P ops (fun x => Below w.heap.size w x) j (fun a' => a' = a.put o.dst v) a := by
  unfold Go.qOp
  simp only [hj]
  rcases hy with ⟨h1, h2⟩ | ⟨h1, rfl⟩
  · simp only [h1, if_true]
    refine ⟨v, fun w' hw' => ?_, rfl⟩
    obtain ⟨p, rfl⟩ := regrown_of_below (hw.trans (hw'.mono hw.size))
    exact quietUpon_imp (fun x (hx : Below _ _ _) => hw'.trans (hx.mono hw'.size)) (h2 p)
  · simp only [h1, Bool.false_eq_true, if_false]

/-- the head's walk, in the text's order -/
def wpSteady (P : Program) (W : World) (ops : Array Oper) (Q : Act → Prop) : List Oper → Act → Prop
  | [], a => Q a
  | o :: rest, a => if Region.wanted o (yielded ops a.tmps) then ∃ v, (∀ p : Regrown, o.quietAt P a (Keeps (grow (redrawn W p.d) p.os)) (grow (redrawn W p.d) p.os) v) ∧ wpSteady P W ops Q rest (a.put o.dst v)
    else wpSteady P W ops Q rest (a.put o.dst undef)
theorem wpSteady_nil {Q : Act → Prop} {a : Act} (h : Q a) : wpSteady P W ops Q [] a := h
theorem wpSteady_step {Q : Act → Prop} {a : Act} {o : Oper} {rest : List Oper}
    (h : ∀ K : Act → Prop, (∀ a, wpSteady P W ops Q rest a → K a) → if Region.wanted o (yielded ops a.tmps) then ∃ v, (∀ p : Regrown, o.quietAt P a (Keeps (grow (redrawn W p.d) p.os)) (grow (redrawn W p.d) p.os) v) ∧ K (a.put o.dst v) else K (a.put o.dst undef)) :
    wpSteady P W ops Q (o :: rest) a := h _ (fun _ h => h)
theorem steady_of {Q : Act → Prop} {a : Act} {o : Oper} {rest : List Oper} (h : wpSteady P W ops Q (o :: rest) a) : ∃ v, Steady P W ops o v a ∧ wpSteady P W ops Q rest (a.put o.dst v) := by
  unfold wpSteady at h
  by_cases hw : Region.wanted o (yielded ops a.tmps) = true
  · rw [if_pos hw] at h
    obtain ⟨v, h1, h2⟩ := h
    exact ⟨v, .inl ⟨hw, h1⟩, h2⟩
  · rw [if_neg hw] at h
    exact ⟨undef, .inr ⟨by simpa using hw, rfl⟩, h⟩

/-- f operations of the head, in whatever order; the operations number n (the variable) and n + 1 (the store into it) stand aside -/
def headS (P : Program) (W : World) (md : Region.Mode) (ops : Array Oper) (n : Nat) (L : Array Bool → Act → Prop) : Nat → Array Bool → Act → Prop
  | 0, listed, a => L listed a
  | f + 1, listed, a => (∃ i ∈ Region.ready md ops listed, i < n) ∧ ∀ i ∈ Region.ready md ops listed, i ≠ n → i ≠ n + 1 → i < n ∧ ∀ oi, ops[i]? = some oi → ∃ v, Steady P W ops oi v a ∧ headS P W md ops n L f (listed.setIfInBounds i true) (a.put oi.dst v)

/-- the tail comes one behind the other, behind all of the head; or there is none -/
def Tailed (md : Region.Mode) (ops : Array Oper) (n : Nat) : Prop := n = ops.size ∨ (n < ops.size ∧ Region.sinkB md ops n = true ∧ Region.chainB md ops n = true)
def tailedB (md : Region.Mode) (ops : Array Oper) (n : Nat) : Bool := decide (n = ops.size) || (decide (n < ops.size) && Region.sinkB md ops n && Region.chainB md ops n)
theorem tailed_spec {n : Nat} (h : tailedB md ops n = true) : Tailed md ops n := by
  unfold tailedB at h
  simp only [Bool.or_eq_true, Bool.and_eq_true, decide_eq_true_eq] at h
  rcases h with h | ⟨⟨h1, h2⟩, h3⟩
  · exact .inl h
  · exact .inr ⟨h1, h2, h3⟩
theorem Tailed.le {n : Nat} (h : Tailed md ops n) : n ≤ ops.size := by
  rcases h with h | ⟨h, _⟩ <;> omega
theorem Tailed.waits {n : Nat} {listed : Array Bool} (h : Tailed md ops n) (inv : HeadInv md ops n listed) :
    ∀ (d i : Nat), n - i = d → i < n → listed.getD i true = false → ∀ t, n ≤ t → t ∉ Region.ready md ops listed := by
  rcases h with h | ⟨h1, h2, h3⟩
  · intro d i _ _ _ t ht hr
    obtain ⟨_, ot, hot, _⟩ := mem_ready.1 hr
    have := (Array.getElem?_eq_some_iff.1 hot).1
    omega
  · exact tail_waits h2 h3 h1 inv

theorem headS_first {n i : Nat} {oi : Oper} {v : Value} {L : Array Bool → Act → Prop} (hi : ops[i]? = some oi) (hsel : ∀ (j : Nat) (o : Oper) cs b, ops[j]? = some o → o.op ≠ .select cs b)
    (hs : Tailed md ops (n + 2)) (hin : i < n)
    (hdone : ∀ listed a, L listed a → ∀ j ∈ Region.ready md ops listed, n ≤ j) :
    ∀ (f : Nat) (listed : Array Bool) (a : Act), HeadInv md ops (n + 2) listed →
      (∀ j oj, ops[j]? = some oj → j ≠ i → listed.getD j true = false → (∀ e ∈ oj.after, Region.binds md e = true → e.on ≠ i) → oi.apart ops oj = true) →
      i ∈ Region.ready md ops listed → Steady P W ops oi v a →
      headS P W md ops n L f (listed.setIfInBounds i true) (a.put oi.dst v) → headS P W md ops n L (f + 1) listed a := by
  intro f
  induction f with
  | zero =>
    intro listed a inv _ hr hy H
    have hun := (mem_ready.1 hr).1
    refine ⟨⟨i, hr, hin⟩, fun j hj hjn hjn1 => ?_⟩
    have hlt : j < n + 2 := Nat.lt_of_not_le fun h => Tailed.waits hs inv _ i rfl (by omega) hun j h hj
    refine ⟨by omega, fun oj hoj => ?_⟩
    by_cases hji : j = i
    · subst hji
      obtain rfl : oj = oi := Option.some.inj (hoj.symm.trans hi)
      exact ⟨v, hy, H⟩
    · have := hdone _ _ H j (ready_mono hj hji)
      omega
  | succ f ih =>
    intro listed a inv hfree hr hy H
    have hun := (mem_ready.1 hr).1
    refine ⟨⟨i, hr, hin⟩, fun j hj hjn hjn1 => ?_⟩
    have hlt : j < n + 2 := Nat.lt_of_not_le fun h => Tailed.waits hs inv _ i rfl (by omega) hun j h hj
    refine ⟨by omega, fun oj hoj => ?_⟩
    by_cases hji : j = i
    · subst hji
      obtain rfl : oj = oi := Option.some.inj (hoj.symm.trans hi)
      exact ⟨v, hy, H⟩
    · obtain ⟨u, hyu, hH⟩ := (H.2 j (ready_mono hj hji) hjn hjn1).2 oj hoj
      obtain ⟨hjun, oj', hoj', hall⟩ := mem_ready.1 hj
      obtain rfl : oj' = oj := Option.some.inj (hoj'.symm.trans hoj)
      have hnot : ∀ e ∈ oj'.after, Region.binds md e = true → e.on ≠ i := fun e he hb heq => by
        have h1 := hall e he hb
        rw [heq, getD_both hun] at h1
        cases h1
      obtain ⟨p1, p2, p3⟩ := Oper.apart_spec (hfree j oj' hoj hji hjun hnot)
      have hyu' : Steady P W ops oj' u a := hyu.same (execOp_put oj' (fun cs b => hsel j oj' cs b hoj) a oi.dst v p1).symm (wanted_put oj' a oi.dst v p1).symm
      have hy' : Steady P W ops oi v (a.put oj'.dst u) := hy.same (execOp_put oi (fun cs b => hsel i oi cs b hi) a oj'.dst u p3) (wanted_put oi a oj'.dst u p3)
      refine ⟨u, hyu', ih (listed.setIfInBounds j true) (a.put oj'.dst u) (inv.set hj hlt) ?_ (ready_mono hr (Ne.symm hji)) hy' ?_⟩
      · intro k ok hk hki hun' hno
        refine hfree k ok hk hki ?_ hno
        by_cases hjk : j = k
        · subst hjk; exact hjun
        · rw [getD_set_ne true hjk] at hun'; exact hun'
      · rw [Array.setIfInBounds_comm _ _ hji, ← Act.put_comm a v u p2]
        exact hH

theorem headS_lex {n g : Nat} {Lq : Act → Prop} (hsel : Region.noSelect ops = true) (hs : Tailed md ops (n + 2)) :
    ∀ (l : List Oper) (k : Nat) (listed : Array Bool) (a : Act), (∀ j, j < l.length → l[j]? = ops[k + j]?) → k + l.length = n → HeadInv md ops (n + 2) listed →
    Region.lexHead md ops (g + 2) l.length k listed = true → wpSteady P W ops Lq l a →
    headS P W md ops n (fun listed' a' => Region.seqB md ops (g + 2) n listed' = true ∧ Lq a') l.length listed a := by
  intro l
  induction l with
  | nil =>
    intro k listed a _ hk _ hB h
    obtain rfl : k = n := by simpa using hk
    exact ⟨by simpa [Region.lexHead] using hB, h⟩
  | cons o l ih =>
    intro k listed a hl hk inv hB h
    have h0 : ops[k]? = some o := by simpa using (hl 0 (by simp)).symm
    simp only [List.length_cons] at hk
    simp only [List.length_cons, Region.lexHead, Bool.and_eq_true] at hB
    obtain ⟨⟨hr, hf⟩, hB'⟩ := hB
    have hkn : k < n := by omega
    have hr' : k ∈ Region.ready md ops listed := by simpa using hr
    obtain ⟨v, hy, hK⟩ := steady_of h
    refine headS_first h0 (Region.noSelect_spec hsel) hs hkn (fun listed' a' hL => seqB_ready hL.1) l.length listed a inv (Region.free_spec h0 hf) hr' hy ?_
    refine ih (k + 1) _ _ (fun j hj => ?_) (by omega) (inv.set hr' (by omega)) hB' hK
    have := hl (j + 1) (by simp; omega)
    simpa [Nat.add_assoc, Nat.add_comm 1 j] using this

/-- the variable's operation (number n) waits for nothing; none of the head waits for it or for the store (number n + 1); it is apart from each of the head; the store waits for it, and for each of the head from which it is not apart -/
def asideB (md : Region.Mode) (ops : Array Oper) (n : Nat) : Bool :=
  match ops[n]?, ops[n + 1]? with
  | some oA, some oS => (oA.after.all fun e => !Region.binds md e) && oA.guard.isNone && oS.guard.isNone && oS.dst.isNone && Region.waitsFor md ops (n + 1) n &&
    (List.range n).all fun i => !Region.waitsFor md ops i n && !Region.waitsFor md ops i (n + 1) && (match ops[i]? with | some oi => oA.apart ops oi && (Region.waitsFor md ops (n + 1) i || oi.apart ops oS) | none => false)
  | _, _ => false

theorem waits_no {i k : Nat} {oi : Oper} (hoi : ops[i]? = some oi) (h : Region.waitsFor md ops i k = false) : ∀ e ∈ oi.after, Region.binds md e = true → e.on ≠ k := by
  intro e he hb heq
  unfold Region.waitsFor at h
  simp only [hoi] at h
  have h6 := Array.any_eq_false'.1 h e he
  simp [hb, heq] at h6

structure Aside (md : Region.Mode) (ops : Array Oper) (n : Nat) (oA oS : Oper) : Prop where
  a : ops[n]? = some oA
  s : ops[n + 1]? = some oS
  after : ∀ e ∈ oA.after, Region.binds md e = false
  ga : oA.guard = none
  gs : oS.guard = none
  ds : oS.dst = none
  wait : Region.waitsFor md ops (n + 1) n = true
  head : ∀ i oi, i < n → ops[i]? = some oi → (∀ e ∈ oi.after, Region.binds md e = true → e.on ≠ n) ∧ (∀ e ∈ oi.after, Region.binds md e = true → e.on ≠ n + 1) ∧ oA.apart ops oi = true ∧ (Region.waitsFor md ops (n + 1) i = true ∨ oi.apart ops oS = true)

theorem aside_spec {n : Nat} (h : asideB md ops n = true) : ∃ oA oS, Aside md ops n oA oS := by
  unfold asideB at h
  split at h
  · rename_i oA oS hA hS
    simp only [Bool.and_eq_true] at h
    obtain ⟨⟨⟨⟨⟨h1, h2⟩, h3⟩, h4⟩, h5⟩, h6⟩ := h
    refine ⟨oA, oS, hA, hS, fun e he => ?_, by simpa using h2, by simpa using h3, by simpa using h4, h5, fun i oi hi hoi => ?_⟩
    · have := Array.all_eq_true'.1 h1 e he
      simpa using this
    · have h7 := List.all_eq_true.1 h6 i (List.mem_range.2 hi)
      simp only [hoi, Bool.and_eq_true, Bool.or_eq_true] at h7
      obtain ⟨⟨h8, h9⟩, h10, h11⟩ := h7
      exact ⟨waits_no hoi (by simpa using h8), waits_no hoi (by simpa using h9), h10, h11⟩
  · cases h

/-- the store goes through, wherever the variable lies, and fills it -/
def StoreOK (P : Program) (W : World) (oA oS : Oper) (obj obj1 : Obj) (a : Act) : Prop :=
  ∀ (b : Nat) (w : World), W.heap.size ≤ b → w.heap[b]? = some obj → ∃ w2, (execOp (a.put oA.dst (.pointer (some ⟨b, 0, none⟩))).eval oS).run P w = .ok .skip w2 ∧ w2.heap[b]? = some obj1 ∧ w.grownBy w2 (some b)
/-- what stands behind the head, the variable and the store: the tail, wherever the variable came to lie -/
def Behind (P : Program) (W : World) (ops : Array Oper) (Q : Exit → Act → World → Prop) (oA : Oper) (obj1 : Obj) (tail : List Oper) (a : Act) : Prop :=
  ∀ (b : Nat) (w : World), W.heap.size ≤ b → b < w.heap.size → Below W.heap.size W w → w.heap[b]? = some obj1 → wpList P ops Q tail (a.put oA.dst (.pointer (some ⟨b, 0, none⟩))) w
/-- what is shown of the head's end -/
def EndS (P : Program) (W : World) (ops : Array Oper) (Q : Exit → Act → World → Prop) (oA oS : Oper) (obj obj1 : Obj) (tail : List Oper) (a : Act) : Prop :=
  StoreOK P W oA oS obj obj1 a ∧ Behind P W ops Q oA obj1 tail a

section
variable {Q : Exit → Act → World → Prop} {n g : Nat} {oA oS : Oper} {obj obj1 : Obj} {tail : List Oper}

theorem store_ready (A : Aside md ops n oA oS) (hsel : Region.noSelect ops = true) : ∀ (f : Nat) (listed : Array Bool) (a : Act),
    (∀ e ∈ oS.after, Region.binds md e = true → e.on ≠ n → listed.getD e.on false = true) →
    headS P W md ops n (fun listed' a' => Region.seqB md ops (g + 2) n listed' = true ∧ EndS P W ops Q oA oS obj obj1 tail a') f listed a → StoreOK P W oA oS obj obj1 a := by
  intro f
  induction f with
  | zero => intro listed a _ H; exact H.2.1
  | succ f ih =>
    intro listed a hdep H
    obtain ⟨⟨i, hir, hin⟩, Hall⟩ := H
    obtain ⟨hun, oi, hoi, _⟩ := mem_ready.1 hir
    obtain ⟨v, hy, hH⟩ := (Hall i hir (by omega) (by omega)).2 oi hoi
    have h1 := ih (listed.setIfInBounds i true) (a.put oi.dst v) (fun e he hb hne => getD_set_true (hdep e he hb hne)) hH
    obtain ⟨_, _, hap, hor⟩ := A.head i oi hin hoi
    have hapS : oi.apart ops oS = true := by
      rcases hor with h | h
      · obtain ⟨o', ho', e, he, hb, hon⟩ := Region.waitsFor_spec h
        obtain rfl : o' = oS := Option.some.inj (ho'.symm.trans A.s)
        have h2 := hdep e he hb (by omega)
        rw [hon, getD_both hun] at h2
        cases h2
      · exact h
    obtain ⟨p1, p2, p3⟩ := Oper.apart_spec hap
    obtain ⟨q1, q2, q3⟩ := Oper.apart_spec hapS
    have hsel' := Region.noSelect_spec hsel
    intro b w hb hw
    obtain ⟨w2, hr, h2⟩ := h1 b w hb hw
    refine ⟨w2, ?_, h2⟩
    rw [← hr, ← Act.put_comm a (.pointer (some ⟨b, 0, none⟩)) v p2]
    rw [execOp_put oS (fun cs b => hsel' (n + 1) oS cs b A.s) _ oi.dst v q1]

/-- both have come -/
theorem any_stored (A : Aside md ops n oA oS) (hsel : Region.noSelect ops = true) (hs : Tailed md ops (n + 2))
    (hg : tail.length = g) (ht : ∀ j, tail[j]? = ops[n + 2 + j]?) (b : Nat) (hb : W.heap.size ≤ b) :
    ∀ (f : Nat) (listed : Array Bool) (a : Act) (w : World), HeadInv md ops (n + 2) listed → n ∈ Region.ready md ops listed → n + 1 ∈ Region.ready md ops (listed.setIfInBounds n true) → Below W.heap.size W w → b < w.heap.size → w.heap[b]? = some obj1 →
      headS P W md ops n (fun listed' a' => Region.seqB md ops (g + 2) n listed' = true ∧ EndS P W ops Q oA oS obj obj1 tail a') f listed a →
      wpAny P md ops Q (f + g) ((listed.setIfInBounds n true).setIfInBounds (n + 1) true) (a.put oA.dst (.pointer (some ⟨b, 0, none⟩))) w := by
  have hn := Tailed.le hs
  intro f
  induction f with
  | zero =>
    intro listed a w inv hrn hrs hw hbw hob H
    obtain ⟨H1, H2⟩ := H
    simp only [Region.seqB, Bool.and_eq_true, decide_eq_true_eq] at H1
    have := wpAny_of_seq (md := md) (Q' := Q) tail (n + 2) _ (a.put oA.dst (.pointer (some ⟨b, 0, none⟩))) w ht (by rw [hg]; exact H1.2.2) (H2.2 b w hb hbw hw hob)
    rw [Nat.zero_add, ← hg]
    exact this
  | succ f ih =>
    intro listed a w inv hrn hrs hw hbw hob H
    have e : f + 1 + g = (f + g) + 1 := by omega
    rw [e]
    obtain ⟨⟨i, hir, hin⟩, Hall⟩ := H
    have hirn := ready_mono (ready_mono hir (show i ≠ n by omega)) (show i ≠ n + 1 by omega)
    have inv' := (inv.set hrn (show n < n + 2 by omega)).set hrs (show n + 1 < n + 2 by omega)
    refine ⟨fun h0 => (by rw [h0] at hirn; cases hirn), fun j hj => ?_⟩
    have hjn1 : j < n + 2 := Nat.lt_of_not_le fun h => Tailed.waits hs inv' _ i rfl (by omega) (mem_ready.1 hirn).1 j h hj
    obtain ⟨hjun, oj, hoj, hall⟩ := mem_ready.1 hj
    have hjne1 : j ≠ n + 1 := by
      rintro rfl
      have hl : n + 1 < (listed.setIfInBounds n true).size := by rw [(inv.set hrn (show n < n + 2 by omega)).size]; omega
      simp at hl
      simp [hl] at hjun
    have hjne : j ≠ n := by
      rintro rfl
      have hl : j < listed.size := by rw [inv.size]; omega
      rw [getD_set_ne true (by omega)] at hjun
      simp [hl] at hjun
    have hjn : j < n := by omega
    obtain ⟨hno, hno1, hapj, _⟩ := A.head j oj hjn hoj
    have hjr : j ∈ Region.ready md ops listed := by
      refine mem_ready.2 ⟨by rw [getD_set_ne true (Ne.symm hjne1), getD_set_ne true (Ne.symm hjne)] at hjun; exact hjun, oj, hoj, fun e he hb' => ?_⟩
      have h1 := hall e he hb'
      rw [getD_set_ne false (Ne.symm (hno1 e he hb')), getD_set_ne false (Ne.symm (hno e he hb'))] at h1
      exact h1
    obtain ⟨v, hy, hH⟩ := (Hall j hjr hjne hjne1).2 oj hoj
    obtain ⟨p1, p2, p3⟩ := Oper.apart_spec hapj
    have hsel' := Region.noSelect_spec hsel
    have hy' : Steady P W ops oj v (a.put oA.dst (.pointer (some ⟨b, 0, none⟩))) := hy.same (execOp_put oj (fun cs b => hsel' j oj cs b hoj) a oA.dst _ p1) (wanted_put oj a oA.dst _ p1)
    refine wpOp_of_qOp (Below.refl _ _) ?_ (hy'.qOp hoj hw)
    rintro a' w' hw' rfl
    rw [Array.setIfInBounds_comm _ _ (Ne.symm hjne1), Array.setIfInBounds_comm _ _ (Ne.symm hjne), Act.put_comm a _ v p2]
    refine ih (listed.setIfInBounds j true) (a.put oj.dst v) w' (inv.set hjr (by omega)) (ready_mono hrn (Ne.symm hjne)) ?_ (hw.trans (hw'.mono hw.size)) (Nat.lt_of_lt_of_le hbw hw'.size) ((hw'.block b hbw).trans hob) hH
    rw [Array.setIfInBounds_comm _ _ hjne]
    exact ready_mono hrs (Ne.symm hjne1)

/-- the variable has been made, the store has not come -/
theorem any_made (A : Aside md ops n oA oS) (hsel : Region.noSelect ops = true) (hs : Tailed md ops (n + 2))
    (hg : tail.length = g) (ht : ∀ j, tail[j]? = ops[n + 2 + j]?) (b : Nat) (hb : W.heap.size ≤ b) :
    ∀ (f : Nat) (listed : Array Bool) (a : Act) (w : World), HeadInv md ops (n + 2) listed → n ∈ Region.ready md ops listed → listed.getD (n + 1) true = false → Below W.heap.size W w → b < w.heap.size → w.heap[b]? = some obj →
      headS P W md ops n (fun listed' a' => Region.seqB md ops (g + 2) n listed' = true ∧ EndS P W ops Q oA oS obj obj1 tail a') f listed a →
      wpAny P md ops Q (f + 1 + g) (listed.setIfInBounds n true) (a.put oA.dst (.pointer (some ⟨b, 0, none⟩))) w := by
  have hn := Tailed.le hs
  have stored : ∀ (f : Nat) (listed : Array Bool) (a : Act) (w : World), HeadInv md ops (n + 2) listed → n ∈ Region.ready md ops listed → n + 1 ∈ Region.ready md ops (listed.setIfInBounds n true) → Below W.heap.size W w → b < w.heap.size → w.heap[b]? = some obj →
      headS P W md ops n (fun listed' a' => Region.seqB md ops (g + 2) n listed' = true ∧ EndS P W ops Q oA oS obj obj1 tail a') f listed a →
      wpOp P ops Q (n + 1) (fun a' w' => wpAny P md ops Q (f + g) ((listed.setIfInBounds n true).setIfInBounds (n + 1) true) a' w') (a.put oA.dst (.pointer (some ⟨b, 0, none⟩))) w := by
    intro f listed a w inv hrn hrs hw hbw hob H
    obtain ⟨_, oS', hoS', hall⟩ := mem_ready.1 hrs
    obtain rfl : oS' = oS := Option.some.inj (hoS'.symm.trans A.s)
    obtain ⟨w2, hr, ho2, hg2⟩ := store_ready A hsel f listed a (fun e he hb' hne => by
      have h1 := hall e he hb'
      rw [getD_set_ne false (Ne.symm hne)] at h1
      exact h1) H b w hb hob
    have hbel : Below W.heap.size W w2 := hw.grown hg2 hw.size (fun k hk => by cases hk; exact hb)
    unfold wpOp
    simp only [A.s]
    have hwt : Region.wanted oS' (yielded ops (a.put oA.dst (.pointer (some ⟨b, 0, none⟩))).tmps) = true := by unfold Region.wanted; rw [A.gs]
    rw [if_pos hwt]
    refine .inl ?_
    unfold Oper.wp
    rw [hr]
    have hput : ∀ x : Act, x.put oS'.dst undef = x := fun x => by rw [A.ds]; rfl
    show wpAny P md ops Q (f + g) _ ((a.put oA.dst (.pointer (some ⟨b, 0, none⟩))).put oS'.dst undef) w2
    rw [hput]
    exact any_stored A hsel hs hg ht b hb f listed a w2 inv hrn hrs hbel (Nat.lt_of_lt_of_le hbw hg2.size) ho2 H
  intro f
  induction f with
  | zero =>
    intro listed a w inv hrn hun1 hw hbw hob H
    have e : 0 + 1 + g = (0 + g) + 1 := by omega
    rw [e]
    have H1 := H.1
    simp only [Region.seqB, Bool.and_eq_true, decide_eq_true_eq] at H1
    have hrs : n + 1 ∈ Region.ready md ops (listed.setIfInBounds n true) := by rw [H1.2.1]; simp
    refine ⟨fun h0 => (by rw [h0] at hrs; cases hrs), fun j hj => ?_⟩
    rw [H1.2.1] at hj
    obtain rfl : j = n + 1 := by simpa using hj
    exact stored 0 listed a w inv hrn hrs hw hbw hob H
  | succ f ih =>
    intro listed a w inv hrn hun1 hw hbw hob H
    have e : f + 1 + 1 + g = (f + 1 + g) + 1 := by omega
    rw [e]
    obtain ⟨⟨i, hir, hin⟩, Hall⟩ := H
    have hirn := ready_mono hir (show i ≠ n by omega)
    have inv' := inv.set hrn (show n < n + 2 by omega)
    refine ⟨fun h0 => (by rw [h0] at hirn; cases hirn), fun j hj => ?_⟩
    have hjn1 : j < n + 2 := Nat.lt_of_not_le fun h => Tailed.waits hs inv' _ i rfl (by omega) (mem_ready.1 hirn).1 j h hj
    by_cases hjs : j = n + 1
    · subst hjs
      exact stored (f + 1) listed a w inv hrn hj hw hbw hob ⟨⟨i, hir, hin⟩, Hall⟩
    · obtain ⟨hjun, oj, hoj, hall⟩ := mem_ready.1 hj
      have hjne : j ≠ n := by
        rintro rfl
        have hl : j < listed.size := by rw [inv.size]; omega
        simp [hl] at hjun
      have hjn : j < n := by omega
      obtain ⟨hno, hno1, hapj, _⟩ := A.head j oj hjn hoj
      have hjr : j ∈ Region.ready md ops listed := by
        refine mem_ready.2 ⟨by rw [getD_set_ne true (Ne.symm hjne)] at hjun; exact hjun, oj, hoj, fun e he hb' => ?_⟩
        have h1 := hall e he hb'
        rw [getD_set_ne false (Ne.symm (hno e he hb'))] at h1
        exact h1
      obtain ⟨v, hy, hH⟩ := (Hall j hjr hjne hjs).2 oj hoj
      obtain ⟨p1, p2, p3⟩ := Oper.apart_spec hapj
      have hsel' := Region.noSelect_spec hsel
      have hy' : Steady P W ops oj v (a.put oA.dst (.pointer (some ⟨b, 0, none⟩))) := hy.same (execOp_put oj (fun cs b => hsel' j oj cs b hoj) a oA.dst _ p1) (wanted_put oj a oA.dst _ p1)
      refine wpOp_of_qOp (Below.refl _ _) ?_ (hy'.qOp hoj hw)
      rintro a' w' hw' rfl
      rw [Array.setIfInBounds_comm _ _ (Ne.symm hjne), Act.put_comm a _ v p2]
      exact ih (listed.setIfInBounds j true) (a.put oj.dst v) w' (inv.set hjr (by omega)) (ready_mono hrn (Ne.symm hjne)) (by rw [getD_set_ne true hjs]; exact hun1) (hw.trans (hw'.mono hw.size)) (Nat.lt_of_lt_of_le hbw hw'.size) ((hw'.block b hbw).trans hob) hH

/-- neither has come -/
theorem any_unmade (A : Aside md ops n oA oS) (hsel : Region.noSelect ops = true) (hs : Tailed md ops (n + 2))
    (hg : tail.length = g) (ht : ∀ j, tail[j]? = ops[n + 2 + j]?) (hrun : ∀ (a : Act) (w : World), (execOp a.eval oA).run P w = .ok (.value (.pointer (some ⟨w.heap.size, 0, none⟩))) (w.alloc obj)) :
    ∀ (f : Nat) (listed : Array Bool) (a : Act) (w : World), HeadInv md ops (n + 2) listed → n ∈ Region.ready md ops listed → listed.getD (n + 1) true = false → Below W.heap.size W w →
      headS P W md ops n (fun listed' a' => Region.seqB md ops (g + 2) n listed' = true ∧ EndS P W ops Q oA oS obj obj1 tail a') f listed a →
      wpAny P md ops Q (f + 2 + g) listed a w := by
  have hn := Tailed.le hs
  have made : ∀ (f : Nat) (listed : Array Bool) (a : Act) (w : World), HeadInv md ops (n + 2) listed → n ∈ Region.ready md ops listed → listed.getD (n + 1) true = false → Below W.heap.size W w →
      headS P W md ops n (fun listed' a' => Region.seqB md ops (g + 2) n listed' = true ∧ EndS P W ops Q oA oS obj obj1 tail a') f listed a →
      wpOp P ops Q n (fun a' w' => wpAny P md ops Q (f + 1 + g) (listed.setIfInBounds n true) a' w') a w := by
    intro f listed a w inv hrn hun1 hw H
    unfold wpOp
    simp only [A.a]
    have hwt : Region.wanted oA (yielded ops a.tmps) = true := by unfold Region.wanted; rw [A.ga]
    rw [if_pos hwt]
    refine .inl ?_
    unfold Oper.wp
    rw [hrun]
    have hsz : w.heap.size < (w.alloc obj).heap.size := by simp
    exact any_made A hsel hs hg ht w.heap.size hw.size f listed a (w.alloc obj) inv hrn hun1 (hw.alloc hw.size obj) hsz (by show (w.heap.push obj)[w.heap.size]? = some obj; simp) H
  intro f
  induction f with
  | zero =>
    intro listed a w inv hrn hun1 hw H
    have e : 0 + 2 + g = (0 + 1 + g) + 1 := by omega
    rw [e]
    refine ⟨fun h0 => (by rw [h0] at hrn; cases hrn), fun j hj => ?_⟩
    have H1 := H.1
    simp only [Region.seqB, Bool.and_eq_true, decide_eq_true_eq] at H1
    rw [H1.1] at hj
    obtain rfl : j = n := by simpa using hj
    exact made 0 listed a w inv hrn hun1 hw H
  | succ f ih =>
    intro listed a w inv hrn hun1 hw H
    have e : f + 1 + 2 + g = (f + 1 + 1 + g) + 1 := by omega
    rw [e]
    refine ⟨fun h0 => (by rw [h0] at hrn; cases hrn), fun j hj => ?_⟩
    by_cases hjn : j = n
    · subst hjn; exact made (f + 1) listed a w inv hrn hun1 hw H
    · obtain ⟨hjun, oj, hoj, hall⟩ := mem_ready.1 hj
      have hjn1 : j ≠ n + 1 := by
        rintro rfl
        obtain ⟨o', ho', e, he, hb, hon⟩ := Region.waitsFor_spec A.wait
        obtain rfl : o' = oj := Option.some.inj (ho'.symm.trans hoj)
        have h1 := hall e he hb
        rw [hon, getD_both (mem_ready.1 hrn).1] at h1
        cases h1
      obtain ⟨hlt, Hj⟩ := H.2 j hj hjn hjn1
      obtain ⟨v, hy, hH⟩ := Hj oj hoj
      refine wpOp_of_qOp (Below.refl _ _) ?_ (hy.qOp hoj hw)
      rintro a' w' hw' rfl
      have e2 : f + 1 + 1 + g = f + 2 + g := by omega
      rw [e2]
      exact ih (listed.setIfInBounds j true) (a.put oj.dst v) w' (inv.set hj (by omega)) (ready_mono hrn (Ne.symm hjn)) (by rw [getD_set_ne true hjn1]; exact hun1) (hw.trans (hw'.mono hw.size)) hH
end

def madeB (md : Region.Mode) (ops : Array Oper) (n : Nat) : Bool :=
  Region.noSelect ops && tailedB md ops (n + 2) && asideB md ops n && Region.lexHead md ops (ops.size - n) n 0 (Array.replicate ops.size false)
end

theorem cell_blk {w : World} {g : Nat} {t : TypeId} {cs : Array Value} (h : w.heap[g]? = some (.cells cs t (0, 0))) (i : Nat) : w.cell? ⟨g, i, none⟩ = cs[i]? := cell_of_row w g i cs t (0, 0) h
theorem frozen_blk {w : World} {g : Nat} {t : TypeId} {cs : Array Value} (h : w.heap[g]? = some (.cells cs t (0, 0))) (i : Nat) : w.frozen? ⟨g, i, none⟩ = false := by simp [World.frozen?, h]
theorem heap_set {w : World} {g : Nat} {t : TypeId} {cs : Array Value} {fr : Nat × Nat} (h : w.heap[g]? = some (.cells cs t fr)) (i : Nat) (u : Value) : (w.setCell ⟨g, i, none⟩ u).heap[g]? = some (.cells (cs.setIfInBounds i u) t fr) := by
  simp [World.setCell, Array.getElem?_modify, h]
theorem only_refl (w : World) (g : Nat) : w.grownBy w (some g) := ⟨rfl, rfl, rfl, Nat.le_refl _, fun _ _ _ => rfl⟩
theorem only_set {w w' : World} {g : Nat} (h : w.grownBy w' (some g)) (i : Nat) (u : Value) : w.grownBy (w'.setCell ⟨g, i, none⟩ u) (some g) :=
  ⟨h.os, h.tape, h.output, by simpa [World.setCell] using h.size, fun k hk hne => (Below.heap_setCell w' ⟨g, i, none⟩ u k (by rintro rfl; exact hne rfl)).trans (h.block k hk hne)⟩
/-- the store of a whole value into the variable goes through -/
theorem storeOK_row {P : Program} {W : World} {oA oS : Oper} {a : Act} {ty t : TypeId} {x y : Operand} {old cells : Array Value} (hS : oS.op = .store ty x y) (hx : ∀ b, (a.put oA.dst (.pointer (some ⟨b, 0, none⟩))).eval x = .pointer (some ⟨b, 0, none⟩))
    (hy : ∀ b : Nat, (a.put oA.dst (.pointer (some ⟨b, 0, none⟩))).eval y = .agg cells) (hi : (P.info? ty).map (·.size) = some cells.size) (hold : old.size = cells.size) (h1 : cells.all (·.oneCell') = true) :
    StoreOK P W oA oS (.cells old t (0, 0)) (.cells cells t (0, 0)) a := by
  intro b w hb hw
  refine ⟨w.setRow b cells, ?_, setRow_heap w b old cells t (0, 0) hw, ⟨rfl, rfl, rfl, by simp, fun k hk hne => setRow_other w b k cells (by rintro rfl; exact hne rfl)⟩⟩
  unfold execOp
  simp only [hS, hx, hy, Instr.storeAt, Instr.sureAddr, Sem.run_bind, Sem.run_pure, Result.andThen_ok, run_storeVar_row w b t ty old cells hw hi hold h1]
/-- THE LAW -/
theorem wp_region_made {P : Program} {id : Nat} {Q : Exit → Act → World → Prop} {a : Act} {W : World} {l : List Oper} (n : Nat) (oA oS : Oper) (obj obj1 : Obj) (hm : P.follows .mixedOrders = true) (hB : madeB .any l.toArray n = true) (hA : l[n]? = some oA) (hS : l[n + 1]? = some oS)
    (hrun : ∀ (a : Act) (w : World), (execOp a.eval oA).run P w = .ok (.value (.pointer (some ⟨w.heap.size, 0, none⟩))) (w.alloc obj))
    (h : wpSteady P W l.toArray (EndS P W l.toArray Q oA oS obj obj1 (l.drop (n + 2))) (l.take n) a) : (Code.region id l.toArray true).wp P Q a W := by
  simp only [madeB, Bool.and_eq_true] at hB
  obtain ⟨⟨⟨hsel, htB⟩, has⟩, hlex⟩ := hB
  have hs := tailed_spec htB
  have hn : n + 2 ≤ l.toArray.size := hs.le
  obtain ⟨oA', oS', A⟩ := aside_spec has
  obtain rfl : oA' = oA := Option.some.inj (A.a.symm.trans (by simpa using hA))
  obtain rfl : oS' = oS := Option.some.inj (A.s.symm.trans (by simpa using hS))
  have hn' : n + 2 ≤ l.length := by simpa using hn
  have htl : (l.take n).length = n := by simp; omega
  have hdl : (l.drop (n + 2)).length = l.toArray.size - n - 2 := by simp; omega
  have hgg : l.toArray.size - n = (l.toArray.size - n - 2) + 2 := by omega
  rw [hgg] at hlex
  have inv0 : HeadInv .any l.toArray (n + 2) (Array.replicate l.toArray.size false) :=
    ⟨by simp, fun j oj _ hl => (by rw [getD_replicate_false] at hl; cases hl), fun t _ ht => getD_in (by simpa using ht) (getD_replicate_false _ _)⟩
  have hrn : n ∈ Region.ready .any l.toArray (Array.replicate l.toArray.size false) :=
    mem_ready.2 ⟨getD_in (by simp; omega) (getD_replicate_false _ _), oA', A.a, fun e he hb => by rw [A.after e he] at hb; cases hb⟩
  have H := headS_lex (P := P) (W := W) (md := .any) (g := l.toArray.size - n - 2) hsel hs (l.take n) 0 _ a (fun j hj => by
    have hj' : j < n := by rw [htl] at hj; exact hj
    simp [hj']) (by simpa using htl) inv0 (by rw [htl]; exact hlex) h
  refine wp_region_any hm ?_
  have := any_unmade (P := P) (W := W) (md := .any) (Q := Q) (tail := l.drop (n + 2)) (obj := obj) (obj1 := obj1) A hsel hs hdl (fun j => by simp [List.getElem?_drop]) hrun _ _ _ { W with drawn := W.drawn + 1 } inv0 hrn (getD_in (by simp; omega) (getD_replicate_false _ _)) ⟨rfl, rfl, rfl, Nat.le_refl _, fun _ _ => rfl⟩ H
  rw [htl, show n + 2 + (l.toArray.size - n - 2) = l.toArray.size by omega] at this
  exact this
end Go.Proofs.YtickgkfgmbaalaaDoor
