/-
  TWO LAWS FOR REGIONS THAT DRAW THEIR ORDER AND HOLD CALLS THAT TURN ONE BLOCK: operations that read elsewhere yield the same whatever the block holds; the calls that read and turn the block (a chain: each waits for the one before it) come one behind the other; so one walk in the text's order serves every order. Law 1: a forced tail behind. Law 2: one variable made besides ('alloc' and its store), then a forced tail or none. Conditions: those of each theorem.
  (Over the library's own notions of such regions: Derived/Still.lean, Derived/StillTail.lean, Derived/Deep/Quiet.lean.)
-/
import Derived.Test.YtickgkfgmbaalaaDoorTail
import Derived.Test.YtickgkfgmbaalaaDoorSeq
namespace Go.Proofs.YtickgkfgmbaalaaDoor
open Go Go.RowKit Go.Sort
set_option linter.unusedVariables false

/-- the world with one block turned -/
def stW (W : World) (bw : Nat) (o : Obj) : World := { W with heap := W.heap.setIfInBounds bw o }
theorem stW_size (W : World) (bw : Nat) (o : Obj) : (stW W bw o).heap.size = W.heap.size := by simp [stW]
theorem stW_at {W : World} {bw : Nat} {o : Obj} (h : bw < W.heap.size) : (stW W bw o).heap[bw]? = some o := by simp [stW, h]
theorem stW_far {W : World} {bw k : Nat} {o : Obj} (h : k ≠ bw) : (stW W bw o).heap[k]? = W.heap[k]? := by
  simp [stW, Ne.symm h]
/-- some later world in which that block holds o, and all else that was there is as it was -/
def wk (W : World) (bw : Nat) (o : Obj) (p : Regrown) : World := grow (redrawn (stW W bw o) p.d) p.os
theorem wk_below (W : World) (bw : Nat) (o : Obj) (p : Regrown) : Below W.heap.size (stW W bw o) (wk W bw o p) := by
  have := below_regrown (stW W bw o) p.d p.os
  rw [stW_size] at this
  exact this
theorem wk_at {W : World} {bw : Nat} {o : Obj} {p : Regrown} (h : bw < W.heap.size) : (wk W bw o p).heap[bw]? = some o := ((wk_below W bw o p).block bw h).trans (stW_at h)
theorem wk_far {W : World} {bw k : Nat} {o : Obj} {p : Regrown} (h : k < W.heap.size) (hk : k ≠ bw) : (wk W bw o p).heap[k]? = W.heap[k]? := ((wk_below W bw o p).block k h).trans (stW_far hk)
theorem wk_cell {W : World} {bw b i : Nat} {o : Obj} {p : Regrown} (h : b < W.heap.size) (hk : b ≠ bw) : (wk W bw o p).cell? ⟨b, i, none⟩ = W.cell? ⟨b, i, none⟩ := World.cell?_of_block (wk_far h hk)
theorem wk_frozen {W : World} {bw b i : Nat} {o : Obj} {p : Regrown} (h : b < W.heap.size) (hk : b ≠ bw) : (wk W bw o p).frozen? ⟨b, i, none⟩ = W.frozen? ⟨b, i, none⟩ := World.frozen?_of_block (wk_far h hk)
theorem wk_size (W : World) (bw : Nat) (o : Obj) (p : Regrown) : W.heap.size ≤ (wk W bw o p).heap.size := by
  have := (wk_below W bw o p).size
  rw [stW_size] at this
  exact this
/-- of w only block bw has turned: it holds o -/
def Leaves (bw : Nat) (o : Obj) (w w' : World) : Prop := w.grownBy w' (some bw) ∧ w'.heap[bw]? = some o
theorem Leaves.trans {bw : Nat} {o o' : Obj} {a b c : World} (h : Leaves bw o a b) (k : Leaves bw o' b c) : Leaves bw o' a c :=
  ⟨⟨k.1.os.trans h.1.os, k.1.tape.trans h.1.tape, k.1.output.trans h.1.output, Nat.le_trans h.1.size k.1.size, fun j hj hne => (k.1.block j (Nat.lt_of_lt_of_le hj h.1.size) hne).trans (h.1.block j hj hne)⟩, k.2⟩
theorem Leaves.below {bw : Nat} {o : Obj} {a b c : World} (h : Leaves bw o a b) (hb : bw < b.heap.size) (k : Below b.heap.size b c) : Leaves bw o a c :=
  h.trans ⟨⟨k.os, k.tape, k.output, k.size, fun j hj _ => k.block j hj⟩, (k.block bw hb).trans h.2⟩
theorem Leaves.cell {bw b i : Nat} {o : Obj} {w w' : World} (h : Leaves bw o w w') (hb : b < w.heap.size) (hk : b ≠ bw) : w'.cell? ⟨b, i, none⟩ = w.cell? ⟨b, i, none⟩ := World.cell?_of_block (h.1.block b hb (by intro e; injection e; exact hk (by assumption)))
theorem Leaves.frozen {bw b i : Nat} {o : Obj} {w w' : World} (h : Leaves bw o w w') (hb : b < w.heap.size) (hk : b ≠ bw) : w'.frozen? ⟨b, i, none⟩ = w.frozen? ⟨b, i, none⟩ := World.frozen?_of_block (h.1.block b hb (by intro e; injection e; exact hk (by assumption)))
theorem leaves_wk {bw : Nat} {o : Obj} {W w' : World} (h : Leaves bw o W w') (hb : bw < W.heap.size) : ∃ p, w' = wk W bw o p := by
  have : Below (stW W bw o).heap.size (stW W bw o) w' := by
    rw [stW_size]
    refine ⟨h.1.os, h.1.tape, h.1.output, by rw [stW_size]; exact h.1.size, fun k hk => ?_⟩
    by_cases e : k = bw
    · subst e; rw [stW_at hb]; exact h.2
    · rw [stW_far e]; exact h.1.block k hk (by intro e2; injection e2; exact e (by assumption))
  exact regrown_of_below this

section
variable {P : Program} {ops : Array Oper} {md : Region.Mode} {W : World} {bw : Nat} {St : Int → Obj}

/-- what is asked of a call of the chain -/
def chUpon (P : Program) (D : World → Prop) (w : World) (v : Value) : Result Next → Prop
  | .ok (.enter f args) w' => w' = w ∧ Calls P f args w (fun e w'' => e = .returned v ∧ D w'')
  | _ => False
def chAt (P : Program) (o : Oper) (a : Act) (D : World → Prop) (w : World) (v : Value) : Prop := chUpon P D w v ((execOp a.eval o).run P w)
/-- a reading operation: the same value whatever the block holds -/
def QtK (P : Program) (W : World) (bw : Nat) (St : Int → Obj) (o : Oper) (v : Value) (a : Act) : Prop := ∀ (s : Int) (p : Regrown), o.quietAt P a (Keeps (wk W bw (St s) p)) (wk W bw (St s) p) v
/-- a call of the chain: where the block holds s it leaves v, and s' in the block -/
def ChK (P : Program) (W : World) (bw : Nat) (St : Int → Obj) (o : Oper) (s : Int) (v : Value) (s' : Int) (a : Act) : Prop := ∀ p : Regrown, chAt P o a (Leaves bw (St s') (wk W bw (St s) p)) (wk W bw (St s) p) v
def YK (P : Program) (W : World) (ops : Array Oper) (bw : Nat) (St : Int → Obj) (c : Bool) (o : Oper) (s : Int) (v : Value) (s' : Int) (a : Act) : Prop :=
  (Region.wanted o (yielded ops a.tmps) = true ∧ ((QtK P W bw St o v a ∧ s' = s) ∨ (c = true ∧ ChK P W bw St o s v s' a))) ∨ (Region.wanted o (yielded ops a.tmps) = false ∧ v = undef ∧ s' = s)
theorem YK.same {c : Bool} {o : Oper} {s s' : Int} {v : Value} {a a' : Act} (hy : YK P W ops bw St c o s v s' a) (he : execOp a'.eval o = execOp a.eval o)
    (hw : Region.wanted o (yielded ops a'.tmps) = Region.wanted o (yielded ops a.tmps)) : YK P W ops bw St c o s v s' a' := by
  unfold YK QtK ChK chAt Oper.quietAt at *
  rw [he, hw]
  exact hy
/-- at the operation -/
theorem YK.op {c : Bool} {j : Nat} {o : Oper} {s s' : Int} {v : Value} {a : Act} {w : World} {K : Act → World → Prop} {Q : Exit → Act → World → Prop} (hlt : bw < W.heap.size) (hj : ops[j]? = some o) (hy : YK P W ops bw St c o s v s' a) (hw : Leaves bw (St s) W w)
    (h : ∀ w', Leaves bw (St s') w w' → K (a.put o.dst v) w') : wpOp P ops Q j K a w := by
  have hbw : bw < w.heap.size := Nat.lt_of_lt_of_le hlt hw.1.size
  have hrefl : Leaves bw (St s) w w := ⟨World.grownBy.refl w _, hw.2⟩
  rcases hy with ⟨hwt, ⟨hq, rfl⟩ | ⟨_, hc⟩⟩ | ⟨hwt, rfl, rfl⟩
  · obtain ⟨p, rfl⟩ := leaves_wk hw hlt
    refine wpOp_of_qOp (C := fun x => Below (wk W bw (St s') p).heap.size (wk W bw (St s') p) x) (K := fun a' => a' = a.put o.dst v) (Below.refl _ _) ?_ ?_
    · rintro a' w' hw' rfl
      exact h w' (hrefl.below hbw hw')
    · unfold Go.qOp
      simp only [hj, hwt, if_true]
      refine ⟨v, fun w' hw' => ?_, rfl⟩
      obtain ⟨p', e'⟩ := leaves_wk (hw.below hbw hw') hlt
      rw [e'] at hw' ⊢
      exact quietUpon_imp (fun x (hx : Below _ _ _) => hw'.trans (hx.mono hw'.size)) (hq s' p')
  · obtain ⟨p, rfl⟩ := leaves_wk hw hlt
    unfold wpOp
    simp only [hj, hwt, if_true]
    refine .inl ?_
    have h3 := hc p
    unfold chAt at h3
    unfold Oper.wp
    generalize (execOp a.eval o).run P (wk W bw (St s) p) = r at *
    cases r with
    | ok n w' =>
      cases n <;> simp only [chUpon] at h3
      case enter f args =>
        obtain ⟨e1, hcl⟩ := h3
        rw [e1]
        exact hcl.mono fun e w'' ⟨he, hl⟩ => by subst he; exact h _ hl
    | halt x w' => simp only [chUpon] at h3
  · unfold wpOp
    simp only [hj, hwt]
    exact h w hrefl

/-- the walk in the text's order -/
def wpCh (P : Program) (W : World) (ops : Array Oper) (bw : Nat) (St : Int → Obj) (ch : Nat → Bool) (Q : Int → Act → Prop) : Nat → List Oper → Int → Act → Prop
  | _, [], s, a => Q s a
  | k, o :: rest, s, a => ∃ v s', YK P W ops bw St (ch k) o s v s' a ∧ wpCh P W ops bw St ch Q (k + 1) rest s' (a.put o.dst v)
theorem wpCh_nil {ch : Nat → Bool} {Q : Int → Act → Prop} {k : Nat} {s : Int} {a : Act} (h : Q s a) : wpCh P W ops bw St ch Q k [] s a := h
theorem wpCh_step {ch : Nat → Bool} {Q : Int → Act → Prop} {k : Nat} {s : Int} {a : Act} {o : Oper} {rest : List Oper} (hg : o.guard = none)
    (h : ∀ K : Int → Act → Prop, (∀ s a, wpCh P W ops bw St ch Q (k + 1) rest s a → K s a) → ∃ v, (∀ (s' : Int) (p : Regrown), o.quietAt P a (Keeps (wk W bw (St s') p)) (wk W bw (St s') p) v) ∧ K s (a.put o.dst v)) :
    wpCh P W ops bw St ch Q k (o :: rest) s a := by
  obtain ⟨v, h1, h2⟩ := h _ (fun _ _ h => h)
  exact ⟨v, s, .inl ⟨by unfold Region.wanted; rw [hg], .inl ⟨h1, rfl⟩⟩, h2⟩
theorem wpCh_call {ch : Nat → Bool} {Q : Int → Act → Prop} {k : Nat} {s : Int} {a : Act} {o : Oper} {rest : List Oper} (hg : o.guard = none) (hc : ch k = true)
    (h : ∀ K : Int → Act → Prop, (∀ s a, wpCh P W ops bw St ch Q (k + 1) rest s a → K s a) → ∃ v s', (∀ p : Regrown, chAt P o a (Leaves bw (St s') (wk W bw (St s) p)) (wk W bw (St s) p) v) ∧ K s' (a.put o.dst v)) :
    wpCh P W ops bw St ch Q k (o :: rest) s a := by
  obtain ⟨v, s', h1, h2⟩ := h _ (fun _ _ h => h)
  exact ⟨v, s', .inl ⟨by unfold Region.wanted; rw [hg], .inr ⟨hc, h1⟩⟩, h2⟩

/-- two calls of the chain never stand ready together -/
def Chained (md : Region.Mode) (ops : Array Oper) (N : Nat) (ch : Nat → Bool) : Prop := ∀ listed, HeadInv md ops N listed → ∀ i j, ch i = true → ch j = true → i ∈ Region.ready md ops listed → j ∈ Region.ready md ops listed → i = j
/-- f operations of the head, in whatever order -/
def headC (P : Program) (W : World) (md : Region.Mode) (ops : Array Oper) (bw : Nat) (St : Int → Obj) (ch : Nat → Bool) (n : Nat) (sk : Nat → Prop) (L : Array Bool → Int → Act → Prop) : Nat → Array Bool → Int → Act → Prop
  | 0, listed, s, a => L listed s a
  | f + 1, listed, s, a => (∃ i ∈ Region.ready md ops listed, i < n) ∧ ∀ i ∈ Region.ready md ops listed, ¬ sk i → i < n ∧ ∀ oi, ops[i]? = some oi → ∃ v s', YK P W ops bw St (ch i) oi s v s' a ∧ headC P W md ops bw St ch n sk L f (listed.setIfInBounds i true) s' (a.put oi.dst v)

theorem headC_first {ch : Nat → Bool} {n N i : Nat} {sk : Nat → Prop} {oi : Oper} {v : Value} {L : Array Bool → Int → Act → Prop} (hi : ops[i]? = some oi) (hsel : ∀ (j : Nat) (o : Oper) cs b, ops[j]? = some o → o.op ≠ .select cs b)
    (hch : Chained md ops N ch) (hN : n ≤ N) (hlow : ∀ listed, HeadInv md ops N listed → ∀ i, i < n → listed.getD i true = false → ∀ j ∈ Region.ready md ops listed, ¬ sk j → j < n) (hin : i < n)
    (hdone : ∀ listed s a, L listed s a → ∀ j ∈ Region.ready md ops listed, n ≤ j) :
    ∀ (f : Nat) (listed : Array Bool) (s s' : Int) (a : Act), HeadInv md ops N listed →
      (∀ j oj, ops[j]? = some oj → j ≠ i → listed.getD j true = false → (∀ e ∈ oj.after, Region.binds md e = true → e.on ≠ i) → oi.apart ops oj = true) →
      i ∈ Region.ready md ops listed → YK P W ops bw St (ch i) oi s v s' a →
      headC P W md ops bw St ch n sk L f (listed.setIfInBounds i true) s' (a.put oi.dst v) → headC P W md ops bw St ch n sk L (f + 1) listed s a := by
  intro f
  induction f with
  | zero =>
    intro listed s s' a inv _ hr hy H
    have hun := (mem_ready.1 hr).1
    refine ⟨⟨i, hr, hin⟩, fun j hj hjs => ?_⟩
    have hlt : j < n := hlow listed inv i hin hun j hj hjs
    refine ⟨hlt, fun oj hoj => ?_⟩
    by_cases hji : j = i
    · subst hji
      obtain rfl : oj = oi := Option.some.inj (hoj.symm.trans hi)
      exact ⟨v, s', hy, H⟩
    · have := hdone _ _ _ H j (ready_mono hj hji)
      omega
  | succ f ih =>
    intro listed s s' a inv hfree hr hy H
    have hun := (mem_ready.1 hr).1
    refine ⟨⟨i, hr, hin⟩, fun j hj hjs => ?_⟩
    have hlt : j < n := hlow listed inv i hin hun j hj hjs
    refine ⟨hlt, fun oj hoj => ?_⟩
    by_cases hji : j = i
    · subst hji
      obtain rfl : oj = oi := Option.some.inj (hoj.symm.trans hi)
      exact ⟨v, s', hy, H⟩
    · obtain ⟨u, s2, hyu, hH⟩ := (H.2 j (ready_mono hj hji) hjs).2 oj hoj
      obtain ⟨hjun, oj', hoj', hall⟩ := mem_ready.1 hj
      obtain rfl : oj' = oj := Option.some.inj (hoj'.symm.trans hoj)
      have hnot : ∀ e ∈ oj'.after, Region.binds md e = true → e.on ≠ i := fun e he hb heq => by
        have h1 := hall e he hb
        rw [heq, getD_both hun] at h1
        cases h1
      obtain ⟨p1, p2, p3⟩ := Oper.apart_spec (hfree j oj' hoj hji hjun hnot)
      have hyu' : YK P W ops bw St (ch j) oj' s' u s2 a := hyu.same (execOp_put oj' (fun cs b => hsel j oj' cs b hoj) a oi.dst v p1).symm (wanted_put oj' a oi.dst v p1).symm
      have step : ∃ s3, YK P W ops bw St (ch j) oj' s u s3 a ∧ YK P W ops bw St (ch i) oi s3 v s2 (a.put oj'.dst u) := by
        have e1 := execOp_put oi (fun cs b => hsel i oi cs b hi) a oj'.dst u p3
        have e2 := wanted_put oi a oj'.dst u p3
        rcases hy with ⟨hwt, ⟨hq, rfl⟩ | ⟨hci, hc⟩⟩ | ⟨hwt, rfl, rfl⟩
        · exact ⟨s2, hyu', YK.same (.inl ⟨hwt, .inl ⟨hq, rfl⟩⟩) e1 e2⟩
        · rcases hyu' with ⟨hwu, ⟨hqu, rfl⟩ | ⟨hcj, _⟩⟩ | ⟨hwu, rfl, rfl⟩
          · exact ⟨s, .inl ⟨hwu, .inl ⟨hqu, rfl⟩⟩, YK.same (.inl ⟨hwt, .inr ⟨hci, hc⟩⟩) e1 e2⟩
          · exact absurd (hch listed inv i j hci hcj hr hj).symm hji
          · exact ⟨s, .inr ⟨hwu, rfl, rfl⟩, YK.same (.inl ⟨hwt, .inr ⟨hci, hc⟩⟩) e1 e2⟩
        · exact ⟨s2, hyu', YK.same (.inr ⟨hwt, rfl, rfl⟩) e1 e2⟩
      obtain ⟨s3, hj3, hi3⟩ := step
      refine ⟨u, s3, hj3, ih (listed.setIfInBounds j true) s3 s2 (a.put oj'.dst u) (inv.set hj (by omega)) ?_ (ready_mono hr (Ne.symm hji)) hi3 ?_⟩
      · intro k ok hk hki hun' hno
        refine hfree k ok hk hki ?_ hno
        by_cases hjk : j = k
        · subst hjk; exact hjun
        · rw [getD_set_ne true hjk] at hun'; exact hun'
      · rw [Array.setIfInBounds_comm _ _ hji, ← Act.put_comm a v u p2]
        exact hH

theorem headC_lex {ch : Nat → Bool} {n N g : Nat} {sk : Nat → Prop} {Lq : Int → Act → Prop} (hsel : Region.noSelect ops = true) (hch : Chained md ops N ch) (hN : n ≤ N)
    (hlow : ∀ listed, HeadInv md ops N listed → ∀ i, i < n → listed.getD i true = false → ∀ j ∈ Region.ready md ops listed, ¬ sk j → j < n) :
    ∀ (l : List Oper) (k : Nat) (listed : Array Bool) (s : Int) (a : Act), (∀ j, j < l.length → l[j]? = ops[k + j]?) → k + l.length = n → HeadInv md ops N listed →
    Region.lexHead md ops g l.length k listed = true → wpCh P W ops bw St ch Lq k l s a →
    headC P W md ops bw St ch n sk (fun listed' s' a' => Region.seqB md ops g n listed' = true ∧ Lq s' a') l.length listed s a := by
  intro l
  induction l with
  | nil =>
    intro k listed s a _ hk _ hB h
    obtain rfl : k = n := by simpa using hk
    exact ⟨by simpa [Region.lexHead] using hB, h⟩
  | cons o l ih =>
    intro k listed s a hl hk inv hB h
    have h0 : ops[k]? = some o := by simpa using (hl 0 (by simp)).symm
    simp only [List.length_cons] at hk
    simp only [List.length_cons, Region.lexHead, Bool.and_eq_true] at hB
    obtain ⟨⟨hr, hf⟩, hB'⟩ := hB
    have hkn : k < n := by omega
    have hr' : k ∈ Region.ready md ops listed := by simpa using hr
    obtain ⟨v, s', hy, hK⟩ := h
    refine headC_first h0 (Region.noSelect_spec hsel) hch hN hlow hkn (fun listed' _ a' hL => seqB_ready hL.1) l.length listed s s' a inv (Region.free_spec h0 hf) hr' hy ?_
    refine ih (k + 1) _ _ _ (fun j hj => ?_) (by omega) (inv.set hr' (by omega)) hB' hK
    have := hl (j + 1) (by simp; omega)
    simpa [Nat.add_assoc, Nat.add_comm 1 j] using this

/-- each call of the chain waits for the one before it -/
def chainedB (md : Region.Mode) (ops : Array Oper) : List Nat → Bool
  | [] => true
  | [_] => true
  | i :: j :: l => Region.waitsFor md ops j i && chainedB md ops (j :: l)
theorem chained_later {N : Nat} {listed : Array Bool} (inv : HeadInv md ops N listed) : ∀ (l : List Nat) (i : Nat), chainedB md ops (i :: l) = true → listed.getD i true = false → ∀ j ∈ l, j ∉ Region.ready md ops listed ∧ listed.getD j false = false := by
  intro l
  induction l with
  | nil => intro i _ _ j hj; cases hj
  | cons k l ih =>
    intro i h hun j hj
    simp only [chainedB, Bool.and_eq_true] at h
    obtain ⟨o', ho', e, he, hb, hon⟩ := Region.waitsFor_spec h.1
    have hk : k ∉ Region.ready md ops listed ∧ listed.getD k false = false := by
      constructor
      · intro hr
        obtain ⟨_, ok, hok, hall⟩ := mem_ready.1 hr
        obtain rfl : ok = o' := Option.some.inj (hok.symm.trans ho')
        have h1 := hall e he hb
        rw [hon, getD_both hun] at h1
        cases h1
      · cases hl : listed.getD k false
        · rfl
        · have h1 := inv.closed k o' ho' hl e he hb
          rw [hon, getD_both hun] at h1
          cases h1
    rcases List.mem_cons.mp hj with rfl | hj
    · exact hk
    · refine ih k h.2 ?_ j hj
      have hlt : k < listed.size := by
        rw [inv.size]
        exact (Array.getElem?_eq_some_iff.1 ho').1
      exact getD_in hlt hk.2
theorem chained_spec {N : Nat} : ∀ l : List Nat, chainedB md ops l = true → Chained md ops N (fun i => l.contains i) := by
  intro l h listed inv i j hi hj hir hjr
  have hi' : i ∈ l := by simpa using hi
  have hj' : j ∈ l := by simpa using hj
  clear hi hj
  induction l with
  | nil => cases hi'
  | cons k l ih =>
    have htl : chainedB md ops l = true := by
      cases l with
      | nil => rfl
      | cons m l => simp only [chainedB, Bool.and_eq_true] at h; exact h.2
    rcases List.mem_cons.mp hi' with rfl | hi2
    · rcases List.mem_cons.mp hj' with rfl | hj2
      · rfl
      · exact absurd hjr (chained_later inv l i h (mem_ready.1 hir).1 j hj2).1
    · rcases List.mem_cons.mp hj' with rfl | hj2
      · exact absurd hir (chained_later inv l j h (mem_ready.1 hjr).1 i hi2).1
      · exact ih htl hi2 hj2

/-! ### law 1: a forced tail -/
theorem any_of_headC {ch : Nat → Bool} {n N g : Nat} {L : Array Bool → Int → Act → Prop} {Q' : Exit → Act → World → Prop} (hlt : bw < W.heap.size) (hN : n ≤ N) (hL : ∀ listed s a w, Leaves bw (St s) W w → L listed s a → wpAny P md ops Q' g listed a w) :
    ∀ (f : Nat) (listed : Array Bool) (s : Int) (a : Act) (w : World), Leaves bw (St s) W w → headC P W md ops bw St ch n (fun _ => False) L f listed s a → wpAny P md ops Q' (f + g) listed a w := by
  intro f
  induction f with
  | zero => intro listed s a w hw h; rw [Nat.zero_add]; exact hL _ _ _ _ hw h
  | succ f ih =>
    intro listed s a w hw h
    have e : f + 1 + g = (f + g) + 1 := by omega
    rw [e]
    obtain ⟨⟨i0, hi0, _⟩, hall⟩ := h
    refine ⟨fun h0 => (by rw [h0] at hi0; cases hi0), fun i hi => ?_⟩
    obtain ⟨_, oi, hoi, _⟩ := mem_ready.1 hi
    obtain ⟨v, s', hy, hH⟩ := (hall i hi (fun h => h)).2 oi hoi
    exact hy.op hlt hoi hw fun w' hw' => ih _ s' _ w' (hw.trans hw') hH
theorem wp_region_chain_tail {id : Nat} {Q : Exit → Act → World → Prop} {a : Act} {l : List Oper} (n : Nat) (cs : List Nat) (bw : Nat) (St : Int → Obj) (s : Int) (hm : P.follows .mixedOrders = true) (hB : Region.lexTailB .any l.toArray n = true) (hcs : chainedB .any l.toArray cs = true)
    (hlt : bw < W.heap.size) (hst : W.heap[bw]? = some (St s))
    (h : bw < W.heap.size → wpCh P W l.toArray bw St (fun i => cs.contains i) (fun s' a' => ∀ w', Leaves bw (St s') W w' → wpList P l.toArray Q (l.drop n) a' w') 0 (l.take n) s a) : (Code.region id l.toArray true).wp P Q a W := by
  simp only [Region.lexTailB, Bool.and_eq_true, decide_eq_true_eq] at hB
  obtain ⟨⟨⟨⟨hsel, hn⟩, hs⟩, hc⟩, hlex⟩ := hB
  have hn' : n < l.length := by simpa using hn
  have htl : (l.take n).length = n := by simp; omega
  have hdl : (l.drop n).length = l.toArray.size - n := by simp
  have inv0 : HeadInv .any l.toArray n (Array.replicate l.toArray.size false) :=
    ⟨by simp, fun j oj _ hl => (by rw [getD_replicate_false] at hl; cases hl), fun t _ ht => getD_in (by simpa using ht) (getD_replicate_false _ _)⟩
  have H := headC_lex (md := .any) (sk := fun _ => False) (g := l.toArray.size - n) hsel (chained_spec (N := n) cs hcs) (Nat.le_refl n) (fun listed inv i hi hun j hj _ => Nat.lt_of_not_le fun h => tail_waits hs hc hn inv _ i rfl hi hun j h hj) (l.take n) 0 _ s a (fun j hj => by
    have hj' : j < n := by rw [htl] at hj; exact hj
    simp [hj']) (by simpa using htl) inv0 (by rw [htl]; exact hlex) (h hlt)
  refine wp_region_any hm ?_
  have := any_of_headC (Q' := Q) (g := l.toArray.size - n) hlt (Nat.le_refl n) (fun listed s' a' w' hw' hL => by
    have := wpAny_of_seq (md := .any) (Q' := Q) (l.drop n) n listed a' w' (fun j => by simp [List.getElem?_drop]) (by rw [hdl]; exact hL.1) (hL.2 w' hw')
    rwa [hdl] at this) _ _ _ _ { W with drawn := W.drawn + 1 } (⟨⟨rfl, rfl, rfl, Nat.le_refl _, fun _ _ _ => rfl⟩, hst⟩) H
  rw [htl, show n + (l.toArray.size - n) = l.toArray.size by omega] at this
  exact this
/-! ### law 2: one variable made besides -/
theorem Leaves.alloc {o : Obj} {w w' : World} (h : Leaves bw o w w') (hlt : bw < w.heap.size) (x : Obj) : Leaves bw o w (w'.alloc x) := by
  have hl : bw < w'.heap.size := Nat.lt_of_lt_of_le hlt h.1.size
  exact h.below hl ((Below.refl _ _).alloc (Nat.le_refl _) x)
theorem Leaves.far {o : Obj} {w w' w2 : World} {b : Nat} (h : Leaves bw o w w') (hlt : bw < w.heap.size) (hb : w.heap.size ≤ b) (k : w'.grownBy w2 (some b)) : Leaves bw o w w2 := by
  have hl : bw < w'.heap.size := Nat.lt_of_lt_of_le hlt h.1.size
  refine ⟨⟨k.os.trans h.1.os, k.tape.trans h.1.tape, k.output.trans h.1.output, Nat.le_trans h.1.size k.size, fun j hj hne => (k.block j (Nat.lt_of_lt_of_le hj h.1.size) (by intro e; injection e; omega)).trans (h.1.block j hj hne)⟩, (k.block bw hl (by intro e; injection e; omega)).trans h.2⟩
def BehindK (P : Program) (W : World) (ops : Array Oper) (bw : Nat) (St : Int → Obj) (Q : Exit → Act → World → Prop) (oA : Oper) (obj1 : Obj) (tail : List Oper) (s : Int) (a : Act) : Prop :=
  ∀ (b : Nat) (w : World), W.heap.size ≤ b → b < w.heap.size → Leaves bw (St s) W w → w.heap[b]? = some obj1 → wpList P ops Q tail (a.put oA.dst (.pointer (some ⟨b, 0, none⟩))) w
def EndK (P : Program) (W : World) (ops : Array Oper) (bw : Nat) (St : Int → Obj) (Q : Exit → Act → World → Prop) (oA oS : Oper) (obj obj1 : Obj) (tail : List Oper) (s : Int) (a : Act) : Prop :=
  StoreOK P W oA oS obj obj1 a ∧ BehindK P W ops bw St Q oA obj1 tail s a
section
variable {Q : Exit → Act → World → Prop} {n g : Nat} {oA oS : Oper} {obj obj1 : Obj} {tail : List Oper} {ch : Nat → Bool}
theorem store_readyK (A : Aside md ops n oA oS) (hsel : Region.noSelect ops = true) : ∀ (f : Nat) (listed : Array Bool) (s : Int) (a : Act),
    (∀ e ∈ oS.after, Region.binds md e = true → e.on ≠ n → listed.getD e.on false = true) →
    headC P W md ops bw St ch n (fun i => i = n ∨ i = n + 1) (fun listed' s' a' => Region.seqB md ops (g + 2) n listed' = true ∧ EndK P W ops bw St Q oA oS obj obj1 tail s' a') f listed s a → StoreOK P W oA oS obj obj1 a := by
  intro f
  induction f with
  | zero => intro listed s a _ H; exact H.2.1
  | succ f ih =>
    intro listed s a hdep H
    obtain ⟨⟨i, hir, hin⟩, Hall⟩ := H
    obtain ⟨hun, oi, hoi, _⟩ := mem_ready.1 hir
    obtain ⟨v, s', hy, hH⟩ := (Hall i hir (by omega)).2 oi hoi
    have h1 := ih (listed.setIfInBounds i true) s' (a.put oi.dst v) (fun e he hb hne => getD_set_true (hdep e he hb hne)) hH
    obtain ⟨_, _, hap, hor⟩ := A.head i oi hin hoi
    have hapS : oi.apart ops oS = true := by
      rcases hor with h | h
      · obtain ⟨o', ho', e, he, hb, hon⟩ := Region.waitsFor_spec h
        obtain rfl : o' = oS := Option.some.inj (ho'.symm.trans A.s)
        have h2 := hdep e he hb (by omega)
        rw [hon, getD_both hun] at h2
        cases h2
      · exact h
    obtain ⟨p1, p2, p3⟩ := Oper.apart_spec hap
    obtain ⟨q1, q2, q3⟩ := Oper.apart_spec hapS
    have hsel' := Region.noSelect_spec hsel
    intro b w hb hw
    obtain ⟨w2, hr, h2⟩ := h1 b w hb hw
    refine ⟨w2, ?_, h2⟩
    rw [← hr, ← Act.put_comm a (.pointer (some ⟨b, 0, none⟩)) v p2]
    rw [execOp_put oS (fun cs b => hsel' (n + 1) oS cs b A.s) _ oi.dst v q1]

/-- both have come -/
theorem any_storedK (A : Aside md ops n oA oS) (hsel : Region.noSelect ops = true) (hs : Tailed md ops (n + 2)) (hlt : bw < W.heap.size)
    (hg : tail.length = g) (ht : ∀ j, tail[j]? = ops[n + 2 + j]?) (b : Nat) (hb : W.heap.size ≤ b) :
    ∀ (f : Nat) (listed : Array Bool) (s : Int) (a : Act) (w : World), HeadInv md ops (n + 2) listed → n ∈ Region.ready md ops listed → n + 1 ∈ Region.ready md ops (listed.setIfInBounds n true) → Leaves bw (St s) W w → b < w.heap.size → w.heap[b]? = some obj1 →
      headC P W md ops bw St ch n (fun i => i = n ∨ i = n + 1) (fun listed' s' a' => Region.seqB md ops (g + 2) n listed' = true ∧ EndK P W ops bw St Q oA oS obj obj1 tail s' a') f listed s a →
      wpAny P md ops Q (f + g) ((listed.setIfInBounds n true).setIfInBounds (n + 1) true) (a.put oA.dst (.pointer (some ⟨b, 0, none⟩))) w := by
  have hn := Tailed.le hs
  intro f
  induction f with
  | zero =>
    intro listed s a w inv hrn hrs hw hbw hob H
    obtain ⟨H1, H2⟩ := H
    simp only [Region.seqB, Bool.and_eq_true, decide_eq_true_eq] at H1
    have := wpAny_of_seq (md := md) (Q' := Q) tail (n + 2) _ (a.put oA.dst (.pointer (some ⟨b, 0, none⟩))) w ht (by rw [hg]; exact H1.2.2) (H2.2 b w hb hbw hw hob)
    rw [Nat.zero_add, ← hg]
    exact this
  | succ f ih =>
    intro listed s a w inv hrn hrs hw hbw hob H
    have e : f + 1 + g = (f + g) + 1 := by omega
    rw [e]
    obtain ⟨⟨i, hir, hin⟩, Hall⟩ := H
    have hirn := ready_mono (ready_mono hir (show i ≠ n by omega)) (show i ≠ n + 1 by omega)
    have inv' := (inv.set hrn (show n < n + 2 by omega)).set hrs (show n + 1 < n + 2 by omega)
    refine ⟨fun h0 => (by rw [h0] at hirn; cases hirn), fun j hj => ?_⟩
    have hjn1 : j < n + 2 := Nat.lt_of_not_le fun h => Tailed.waits hs inv' _ i rfl (by omega) (mem_ready.1 hirn).1 j h hj
    obtain ⟨hjun, oj, hoj, hall⟩ := mem_ready.1 hj
    have hjne1 : j ≠ n + 1 := by
      rintro rfl
      have hl : n + 1 < (listed.setIfInBounds n true).size := by rw [(inv.set hrn (show n < n + 2 by omega)).size]; omega
      simp at hl
      simp [hl] at hjun
    have hjne : j ≠ n := by
      rintro rfl
      have hl : j < listed.size := by rw [inv.size]; omega
      rw [getD_set_ne true (by omega)] at hjun
      simp [hl] at hjun
    have hjn : j < n := by omega
    obtain ⟨hno, hno1, hapj, _⟩ := A.head j oj hjn hoj
    have hjr : j ∈ Region.ready md ops listed := by
      refine mem_ready.2 ⟨by rw [getD_set_ne true (Ne.symm hjne1), getD_set_ne true (Ne.symm hjne)] at hjun; exact hjun, oj, hoj, fun e he hb' => ?_⟩
      have h1 := hall e he hb'
      rw [getD_set_ne false (Ne.symm (hno1 e he hb')), getD_set_ne false (Ne.symm (hno e he hb'))] at h1
      exact h1
    obtain ⟨v, s', hy, hH⟩ := (Hall j hjr (by omega)).2 oj hoj
    obtain ⟨p1, p2, p3⟩ := Oper.apart_spec hapj
    have hsel' := Region.noSelect_spec hsel
    have hy' : YK P W ops bw St (ch j) oj s v s' (a.put oA.dst (.pointer (some ⟨b, 0, none⟩))) := hy.same (execOp_put oj (fun cs b => hsel' j oj cs b hoj) a oA.dst _ p1) (wanted_put oj a oA.dst _ p1)
    refine hy'.op hlt hoj hw fun w' hw' => ?_
    rw [Array.setIfInBounds_comm _ _ (Ne.symm hjne1), Array.setIfInBounds_comm _ _ (Ne.symm hjne), Act.put_comm a _ v p2]
    refine ih (listed.setIfInBounds j true) s' (a.put oj.dst v) w' (inv.set hjr (by omega)) (ready_mono hrn (Ne.symm hjne)) ?_ (hw.trans hw') (Nat.lt_of_lt_of_le hbw hw'.1.size) ((hw'.1.block b hbw (by intro e; injection e; omega)).trans hob) hH
    rw [Array.setIfInBounds_comm _ _ hjne]
    exact ready_mono hrs (Ne.symm hjne1)

/-- the variable has been made, the store has not come -/
theorem any_madeK (A : Aside md ops n oA oS) (hsel : Region.noSelect ops = true) (hs : Tailed md ops (n + 2)) (hlt : bw < W.heap.size)
    (hg : tail.length = g) (ht : ∀ j, tail[j]? = ops[n + 2 + j]?) (b : Nat) (hb : W.heap.size ≤ b) :
    ∀ (f : Nat) (listed : Array Bool) (s : Int) (a : Act) (w : World), HeadInv md ops (n + 2) listed → n ∈ Region.ready md ops listed → listed.getD (n + 1) true = false → Leaves bw (St s) W w → b < w.heap.size → w.heap[b]? = some obj →
      headC P W md ops bw St ch n (fun i => i = n ∨ i = n + 1) (fun listed' s' a' => Region.seqB md ops (g + 2) n listed' = true ∧ EndK P W ops bw St Q oA oS obj obj1 tail s' a') f listed s a →
      wpAny P md ops Q (f + 1 + g) (listed.setIfInBounds n true) (a.put oA.dst (.pointer (some ⟨b, 0, none⟩))) w := by
  have hn := Tailed.le hs
  have stored : ∀ (f : Nat) (listed : Array Bool) (s : Int) (a : Act) (w : World), HeadInv md ops (n + 2) listed → n ∈ Region.ready md ops listed → n + 1 ∈ Region.ready md ops (listed.setIfInBounds n true) → Leaves bw (St s) W w → b < w.heap.size → w.heap[b]? = some obj →
      headC P W md ops bw St ch n (fun i => i = n ∨ i = n + 1) (fun listed' s' a' => Region.seqB md ops (g + 2) n listed' = true ∧ EndK P W ops bw St Q oA oS obj obj1 tail s' a') f listed s a →
      wpOp P ops Q (n + 1) (fun a' w' => wpAny P md ops Q (f + g) ((listed.setIfInBounds n true).setIfInBounds (n + 1) true) a' w') (a.put oA.dst (.pointer (some ⟨b, 0, none⟩))) w := by
    intro f listed s a w inv hrn hrs hw hbw hob H
    obtain ⟨_, oS', hoS', hall⟩ := mem_ready.1 hrs
    obtain rfl : oS' = oS := Option.some.inj (hoS'.symm.trans A.s)
    obtain ⟨w2, hr, ho2, hg2⟩ := store_readyK A hsel f listed s a (fun e he hb' hne => by
      have h1 := hall e he hb'
      rw [getD_set_ne false (Ne.symm hne)] at h1
      exact h1) H b w hb hob
    have hbel : Leaves bw (St s) W w2 := hw.far hlt hb hg2
    unfold wpOp
    simp only [A.s]
    have hwt : Region.wanted oS' (yielded ops (a.put oA.dst (.pointer (some ⟨b, 0, none⟩))).tmps) = true := by unfold Region.wanted; rw [A.gs]
    rw [if_pos hwt]
    refine .inl ?_
    unfold Oper.wp
    rw [hr]
    have hput : ∀ x : Act, x.put oS'.dst undef = x := fun x => by rw [A.ds]; rfl
    show wpAny P md ops Q (f + g) _ ((a.put oA.dst (.pointer (some ⟨b, 0, none⟩))).put oS'.dst undef) w2
    rw [hput]
    exact any_storedK A hsel hs hlt hg ht b hb f listed s a w2 inv hrn hrs hbel (Nat.lt_of_lt_of_le hbw hg2.size) ho2 H
  intro f
  induction f with
  | zero =>
    intro listed s a w inv hrn hun1 hw hbw hob H
    have e : 0 + 1 + g = (0 + g) + 1 := by omega
    rw [e]
    have H1 := H.1
    simp only [Region.seqB, Bool.and_eq_true, decide_eq_true_eq] at H1
    have hrs : n + 1 ∈ Region.ready md ops (listed.setIfInBounds n true) := by rw [H1.2.1]; simp
    refine ⟨fun h0 => (by rw [h0] at hrs; cases hrs), fun j hj => ?_⟩
    rw [H1.2.1] at hj
    obtain rfl : j = n + 1 := by simpa using hj
    exact stored 0 listed s a w inv hrn hrs hw hbw hob H
  | succ f ih =>
    intro listed s a w inv hrn hun1 hw hbw hob H
    have e : f + 1 + 1 + g = (f + 1 + g) + 1 := by omega
    rw [e]
    obtain ⟨⟨i, hir, hin⟩, Hall⟩ := H
    have hirn := ready_mono hir (show i ≠ n by omega)
    have inv' := inv.set hrn (show n < n + 2 by omega)
    refine ⟨fun h0 => (by rw [h0] at hirn; cases hirn), fun j hj => ?_⟩
    have hjn1 : j < n + 2 := Nat.lt_of_not_le fun h => Tailed.waits hs inv' _ i rfl (by omega) (mem_ready.1 hirn).1 j h hj
    by_cases hjs : j = n + 1
    · subst hjs
      exact stored (f + 1) listed s a w inv hrn hj hw hbw hob ⟨⟨i, hir, hin⟩, Hall⟩
    · obtain ⟨hjun, oj, hoj, hall⟩ := mem_ready.1 hj
      have hjne : j ≠ n := by
        rintro rfl
        have hl : j < listed.size := by rw [inv.size]; omega
        simp [hl] at hjun
      have hjn : j < n := by omega
      obtain ⟨hno, hno1, hapj, _⟩ := A.head j oj hjn hoj
      have hjr : j ∈ Region.ready md ops listed := by
        refine mem_ready.2 ⟨by rw [getD_set_ne true (Ne.symm hjne)] at hjun; exact hjun, oj, hoj, fun e he hb' => ?_⟩
        have h1 := hall e he hb'
        rw [getD_set_ne false (Ne.symm (hno e he hb'))] at h1
        exact h1
      obtain ⟨v, s', hy, hH⟩ := (Hall j hjr (by omega)).2 oj hoj
      obtain ⟨p1, p2, p3⟩ := Oper.apart_spec hapj
      have hsel' := Region.noSelect_spec hsel
      have hy' : YK P W ops bw St (ch j) oj s v s' (a.put oA.dst (.pointer (some ⟨b, 0, none⟩))) := hy.same (execOp_put oj (fun cs b => hsel' j oj cs b hoj) a oA.dst _ p1) (wanted_put oj a oA.dst _ p1)
      refine hy'.op hlt hoj hw fun w' hw' => ?_
      rw [Array.setIfInBounds_comm _ _ (Ne.symm hjne), Act.put_comm a _ v p2]
      exact ih (listed.setIfInBounds j true) s' (a.put oj.dst v) w' (inv.set hjr (by omega)) (ready_mono hrn (Ne.symm hjne)) (by rw [getD_set_ne true hjs]; exact hun1) (hw.trans hw') (Nat.lt_of_lt_of_le hbw hw'.1.size) ((hw'.1.block b hbw (by intro e; injection e; omega)).trans hob) hH

/-- neither has come -/
theorem any_unmadeK (A : Aside md ops n oA oS) (hsel : Region.noSelect ops = true) (hs : Tailed md ops (n + 2)) (hlt : bw < W.heap.size)
    (hg : tail.length = g) (ht : ∀ j, tail[j]? = ops[n + 2 + j]?) (hrun : ∀ (a : Act) (w : World), (execOp a.eval oA).run P w = .ok (.value (.pointer (some ⟨w.heap.size, 0, none⟩))) (w.alloc obj)) :
    ∀ (f : Nat) (listed : Array Bool) (s : Int) (a : Act) (w : World), HeadInv md ops (n + 2) listed → n ∈ Region.ready md ops listed → listed.getD (n + 1) true = false → Leaves bw (St s) W w →
      headC P W md ops bw St ch n (fun i => i = n ∨ i = n + 1) (fun listed' s' a' => Region.seqB md ops (g + 2) n listed' = true ∧ EndK P W ops bw St Q oA oS obj obj1 tail s' a') f listed s a →
      wpAny P md ops Q (f + 2 + g) listed a w := by
  have hn := Tailed.le hs
  have made : ∀ (f : Nat) (listed : Array Bool) (s : Int) (a : Act) (w : World), HeadInv md ops (n + 2) listed → n ∈ Region.ready md ops listed → listed.getD (n + 1) true = false → Leaves bw (St s) W w →
      headC P W md ops bw St ch n (fun i => i = n ∨ i = n + 1) (fun listed' s' a' => Region.seqB md ops (g + 2) n listed' = true ∧ EndK P W ops bw St Q oA oS obj obj1 tail s' a') f listed s a →
      wpOp P ops Q n (fun a' w' => wpAny P md ops Q (f + 1 + g) (listed.setIfInBounds n true) a' w') a w := by
    intro f listed s a w inv hrn hun1 hw H
    unfold wpOp
    simp only [A.a]
    have hwt : Region.wanted oA (yielded ops a.tmps) = true := by unfold Region.wanted; rw [A.ga]
    rw [if_pos hwt]
    refine .inl ?_
    unfold Oper.wp
    rw [hrun]
    have hsz : w.heap.size < (w.alloc obj).heap.size := by simp
    exact any_madeK A hsel hs hlt hg ht w.heap.size hw.1.size f listed s a (w.alloc obj) inv hrn hun1 (hw.alloc hlt obj) hsz (by show (w.heap.push obj)[w.heap.size]? = some obj; simp) H
  intro f
  induction f with
  | zero =>
    intro listed s a w inv hrn hun1 hw H
    have e : 0 + 2 + g = (0 + 1 + g) + 1 := by omega
    rw [e]
    refine ⟨fun h0 => (by rw [h0] at hrn; cases hrn), fun j hj => ?_⟩
    have H1 := H.1
    simp only [Region.seqB, Bool.and_eq_true, decide_eq_true_eq] at H1
    rw [H1.1] at hj
    obtain rfl : j = n := by simpa using hj
    exact made 0 listed s a w inv hrn hun1 hw H
  | succ f ih =>
    intro listed s a w inv hrn hun1 hw H
    have e : f + 1 + 2 + g = (f + 1 + 1 + g) + 1 := by omega
    rw [e]
    refine ⟨fun h0 => (by rw [h0] at hrn; cases hrn), fun j hj => ?_⟩
    by_cases hjn : j = n
    · subst hjn; exact made (f + 1) listed s a w inv hrn hun1 hw H
    · obtain ⟨hjun, oj, hoj, hall⟩ := mem_ready.1 hj
      have hjn1 : j ≠ n + 1 := by
        rintro rfl
        obtain ⟨o', ho', e, he, hb, hon⟩ := Region.waitsFor_spec A.wait
        obtain rfl : o' = oj := Option.some.inj (ho'.symm.trans hoj)
        have h1 := hall e he hb
        rw [hon, getD_both (mem_ready.1 hrn).1] at h1
        cases h1
      obtain ⟨hltj, Hj⟩ := H.2 j hj (by omega)
      obtain ⟨v, s', hy, hH⟩ := Hj oj hoj
      refine hy.op hlt hoj hw fun w' hw' => ?_
      have e2 : f + 1 + 1 + g = f + 2 + g := by omega
      rw [e2]
      exact ih (listed.setIfInBounds j true) s' (a.put oj.dst v) w' (inv.set hj (by omega)) (ready_mono hrn (Ne.symm hjn)) (by rw [getD_set_ne true hjn1]; exact hun1) (hw.trans hw') hH
end
/-- LAW 2 -/
theorem wp_region_chain_made {id : Nat} {Q : Exit → Act → World → Prop} {a : Act} {l : List Oper} (n : Nat) (cs : List Nat) (bw : Nat) (St : Int → Obj) (s : Int) (oA oS : Oper) (obj obj1 : Obj) (hm : P.follows .mixedOrders = true) (hB : madeB .any l.toArray n = true) (hcs : chainedB .any l.toArray cs = true)
    (hA : l[n]? = some oA) (hS : l[n + 1]? = some oS)
    (hrun : ∀ (a : Act) (w : World), (execOp a.eval oA).run P w = .ok (.value (.pointer (some ⟨w.heap.size, 0, none⟩))) (w.alloc obj))
    (hlt : bw < W.heap.size) (hst : W.heap[bw]? = some (St s))
    (h : bw < W.heap.size → wpCh P W l.toArray bw St (fun i => cs.contains i) (EndK P W l.toArray bw St Q oA oS obj obj1 (l.drop (n + 2))) 0 (l.take n) s a) : (Code.region id l.toArray true).wp P Q a W := by
  simp only [madeB, Bool.and_eq_true] at hB
  obtain ⟨⟨⟨hsel, htB⟩, has⟩, hlex⟩ := hB
  have hs := tailed_spec htB
  have hn : n + 2 ≤ l.toArray.size := hs.le
  obtain ⟨oA', oS', A⟩ := aside_spec has
  obtain rfl : oA' = oA := Option.some.inj (A.a.symm.trans (by simpa using hA))
  obtain rfl : oS' = oS := Option.some.inj (A.s.symm.trans (by simpa using hS))
  have hn' : n + 2 ≤ l.length := by simpa using hn
  have htl : (l.take n).length = n := by simp; omega
  have hdl : (l.drop (n + 2)).length = l.toArray.size - n - 2 := by simp; omega
  have hgg : l.toArray.size - n = (l.toArray.size - n - 2) + 2 := by omega
  rw [hgg] at hlex
  have inv0 : HeadInv .any l.toArray (n + 2) (Array.replicate l.toArray.size false) :=
    ⟨by simp, fun j oj _ hl => (by rw [getD_replicate_false] at hl; cases hl), fun t _ ht => getD_in (by simpa using ht) (getD_replicate_false _ _)⟩
  have hrn : n ∈ Region.ready .any l.toArray (Array.replicate l.toArray.size false) :=
    mem_ready.2 ⟨getD_in (by simp; omega) (getD_replicate_false _ _), oA', A.a, fun e he hb => by rw [A.after e he] at hb; cases hb⟩
  have H := headC_lex (P := P) (W := W) (md := .any) (sk := fun i => i = n ∨ i = n + 1) (n := n) (N := n + 2) (g := l.toArray.size - n - 2 + 2) hsel (chained_spec (N := n + 2) cs hcs) (by omega)
    (fun listed inv i hi hun j hj hsk => by
      have : j < n + 2 := Nat.lt_of_not_le fun h => Tailed.waits hs inv _ i rfl (show i < n + 2 by omega) hun j h hj
      omega) (l.take n) 0 _ s a (fun j hj => by
    have hj' : j < n := by rw [htl] at hj; exact hj
    simp [hj']) (by simpa using htl) inv0 (by rw [htl]; exact hlex) (h hlt)
  refine wp_region_any hm ?_
  have := any_unmadeK (P := P) (W := W) (md := .any) (Q := Q) (tail := l.drop (n + 2)) (obj := obj) (obj1 := obj1) A hsel hs hlt hdl (fun j => by simp [List.getElem?_drop]) hrun _ _ _ _ { W with drawn := W.drawn + 1 } inv0 hrn (getD_in (by simp; omega) (getD_replicate_false _ _)) ⟨⟨rfl, rfl, rfl, Nat.le_refl _, fun _ _ _ => rfl⟩, hst⟩ H
  rw [htl, show n + 2 + (l.toArray.size - n - 2) = l.toArray.size by omega] at this
  exact this
end
end Go.Proofs.YtickgkfgmbaalaaDoor
