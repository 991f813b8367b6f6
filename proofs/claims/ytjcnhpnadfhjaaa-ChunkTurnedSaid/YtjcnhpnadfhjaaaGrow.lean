/- A region that draws its order and whose operations leave all that was there as it was (they may make blocks): some of its temporaries are known by their value, the others by an assertion; one obligation an operation. No dump, no condition. -/
import Derived.Test.YtjcnhpnadfhjaaaReg
import Derived.Test.YtjcnhpnadfhjaaaOps
import Derived.Conc.Own4
namespace Go.Proofs.Ytjcnhpnadfhjaaa
open Go.RowKit

/-- what is known of a temporary -/
inductive Sp
  | val (v : Value)
  | rel (A : World → Value → Prop)

def Sp.asn : Sp → Asn
  | .val v => fun _ v' => v' = v
  | .rel A => A

def Mono (A : World → Value → Prop) : Prop := ∀ w1 w2 v, Own w1 w2 [] → A w1 v → A w2 v

theorem Sp.mono_val (v : Value) : Mono (Sp.val v).asn := fun _ _ _ _ h => h

def wpSp (P : Program) (ops : Array Oper) (w : World) (K : (World → (Nat → Prop) → Prop) → Act → Prop) : List Sp → List Oper → (World → (Nat → Prop) → Prop) → Act → Prop
  | [], _, F, a => K F a
  | .val v :: sps, o :: rest, F, a => (∀ w', Own w w' [] → F w' (fun s => s ∈ o.looksAt ops) → if Region.wanted o (yielded ops a.tmps) then YieldsTo P o a w' (fun v' w'' => v' = v ∧ Own w' w'' []) else undef = v) ∧ wpSp P ops w K sps rest F (a.put o.dst v)
  | .rel A :: sps, o :: rest, F, a => Mono A ∧ Region.wanted o (yielded ops a.tmps) = true ∧ (∀ w', Own w w' [] → F w' (fun s => s ∈ o.looksAt ops) → YieldsTo P o a w' (fun v w'' => Own w' w'' [] ∧ A w'' v)) ∧
      ∀ v, wpSp P ops w K sps rest (fun w' S => F w' S ∧ ∀ d, o.dst = some d → S d → A w' v) (a.put o.dst v)
  | _ :: _, [], _, _ => False

/-- each of the first n operations writes a temporary, each another one -/
def apartB (ops : Array Oper) (n : Nat) : Bool := ((List.range n).all fun j => (ops[j]?.bind (·.dst)).isSome) && ((List.range n).all fun j => (List.range j).all fun i => ops[j]?.bind (·.dst) != ops[i]?.bind (·.dst))

section
variable {P : Program} {ops : Array Oper}

theorem apartB_some {n j : Nat} (h : apartB ops n = true) (hj : j < n) : ∃ d, ops[j]?.bind (·.dst) = some d := by
  simp only [apartB, Bool.and_eq_true, List.all_eq_true, List.mem_range] at h
  exact Option.isSome_iff_exists.1 (h.1 j hj)

theorem apartB_ne {n i j : Nat} (h : apartB ops n = true) (hj : j < n) (hi : i < n) (hij : i ≠ j) : ops[j]?.bind (·.dst) ≠ ops[i]?.bind (·.dst) := by
  simp only [apartB, Bool.and_eq_true, List.all_eq_true, List.mem_range, bne_iff_ne] at h
  rcases Nat.lt_or_gt_of_ne hij with h1 | h1
  · exact h.2 j hj i h1
  · exact (h.2 i hi j h1).symm

theorem asnAt_of {F0 A : Nat → Asn} {n d j : Nat} {w : World} {x : Value} (ha : apartB ops n = true) (hd : ops[j]?.bind (·.dst) = some d) : ∀ k, k ≤ n → j < k → asnAt ops F0 A k d w x → A j w x
  | 0, _, h, _ => by omega
  | k + 1, hk, hjk, h => by
    simp only [asnAt] at h
    split at h
    · rename_i hkd
      by_cases e : j = k
      · subst e; exact h
      · exact absurd (hkd.trans hd.symm) (apartB_ne ha (j := k) (i := j) (by omega) (by omega) e)
    · rename_i hkd
      have : j ≠ k := fun e => hkd (by rw [← e]; exact hd)
      exact asnAt_of ha hd k (by omega) (by omega) h

/-- The frame in which the temporaries of the first i operations are these. -/
theorem asnAt_frame' {vals : Nat → Value} {A : Nat → Asn} {a : Act} {s : Nat} {w : World} {x : Value} : ∀ k, (∀ i o d, i < k → ops[i]? = some o → o.dst = some d → d < a.tmps.size) →
    (∀ i, i < k → (ops[i]?).bind (·.dst) = some s → A i w x → x = vals i) →
    asnAt ops (fun s _ v => v = a.tmps.getD s undef) A k s w x → x = (frameAt ops vals a k).tmps.getD s undef
  | 0, _, _, h => h
  | k + 1, hN, hv, h => by
    simp only [asnAt] at h
    simp only [frameAt]
    split at h
    · rename_i hd
      have hx := hv k (by omega) hd h
      rw [hd]
      cases ho : ops[k]? with
      | none => simp [ho] at hd
      | some o =>
        simp only [ho, Option.bind_some] at hd
        have hlt := hN k o s (by omega) ho hd
        have hsz := frameAt_size (ops := ops) (vals := vals) (a := a) k
        simp [Act.put, hsz, hlt, hx]
    · rename_i hd
      have ih := asnAt_frame' (vals := vals) (a := a) k (fun i o d hi => hN i o d (by omega)) (fun i hi => hv i (by omega)) h
      rw [ih]
      cases hb : (ops[k]?).bind (·.dst) with
      | none => rfl
      | some d =>
        have hne : d ≠ s := fun e => hd (by rw [hb, e])
        simp [Act.put, Array.getElem?_setIfInBounds_ne hne]

theorem wpSp_at {w : World} {K : (World → (Nat → Prop) → Prop) → Act → Prop} {a : Act} (vals : Nat → Value) : ∀ (i : Nat) (sps : List Sp) (k : Nat) (F : World → (Nat → Prop) → Prop), (∀ j v, sps[j]? = some (.val v) → vals (k + j) = v) →
    wpSp P ops w K sps (ops.toList.drop k) F (frameAt ops vals a k) → i ≤ sps.length →
    ∃ F', (∀ w' S, F w' S → (∀ j A d, j < i → sps[j]? = some (.rel A) → ops[k + j]?.bind (·.dst) = some d → S d → A w' (vals (k + j))) → F' w' S) ∧
      wpSp P ops w K (sps.drop i) (ops.toList.drop (k + i)) F' (frameAt ops vals a (k + i))
  | 0, sps, k, F, _, h, _ => ⟨F, fun _ _ h _ => h, by simpa using h⟩
  | i + 1, [], k, F, _, _, hi => by simp at hi
  | i + 1, s :: sps, k, F, hv, h, hi => by
    cases hl : ops.toList.drop k with
    | nil => rw [hl] at h; cases s <;> exact h.elim
    | cons o rest =>
      have ho : ops[k]? = some o := by
        have := congrArg (fun l => l[0]?) hl
        simpa using this
      have hrest : rest = ops.toList.drop (k + 1) := by
        have := congrArg List.tail hl
        simpa using this.symm
      have hfr : ∀ v, vals k = v → (frameAt ops vals a k).put o.dst v = frameAt ops vals a (k + 1) := by
        intro v hvk
        simp only [frameAt, ho, Option.bind_some, hvk]
      have hdr : (s :: sps).drop (i + 1) = sps.drop i := rfl
      rw [hl] at h
      have hv2 : ∀ j v, sps[j]? = some (.val v) → vals (k + 1 + j) = v := fun j v hj => by
        have := hv (j + 1) v (by simpa using hj)
        rwa [show k + (j + 1) = k + 1 + j by omega] at this
      cases s with
      | val v =>
        simp only [wpSp] at h
        obtain ⟨_, h2⟩ := h
        have hvk : vals k = v := hv 0 v (by simp)
        rw [hfr v hvk, hrest] at h2
        obtain ⟨F', f1, f2⟩ := wpSp_at vals i sps (k + 1) F hv2 h2 (by simpa using hi)
        refine ⟨F', fun w' S hF hA => f1 w' S hF fun j A d hj hs hd hS => ?_, ?_⟩
        · have := hA (j + 1) A d (by omega) (by simpa using hs) (by rw [show k + (j + 1) = k + 1 + j by omega]; exact hd) hS
          rwa [show k + (j + 1) = k + 1 + j by omega] at this
        · rw [hdr, show k + (i + 1) = k + 1 + i by omega]; exact f2
      | rel A0 =>
        simp only [wpSp] at h
        obtain ⟨_, _, _, h2⟩ := h
        have h2 := h2 (vals k)
        rw [hfr _ rfl, hrest] at h2
        obtain ⟨F', f1, f2⟩ := wpSp_at vals i sps (k + 1) _ hv2 h2 (by simpa using hi)
        refine ⟨F', fun w' S hF hA => f1 w' S ⟨hF, fun d hd hS => ?_⟩ fun j A d hj hs hd hS => ?_, ?_⟩
        · exact hA 0 A0 d (by omega) (by simp) (by simpa [ho] using hd) hS
        · have := hA (j + 1) A d (by omega) (by simpa using hs) (by rw [show k + (j + 1) = k + 1 + j by omega]; exact hd) hS
          rwa [show k + (j + 1) = k + 1 + j by omega] at this
        · rw [hdr, show k + (i + 1) = k + 1 + i by omega]; exact f2

/-- two frames that agree on what an operation looks at -/
theorem wanted_congr {o : Oper} {a a' : Act} (heq : ∀ s ∈ o.looksAt ops, a'.tmps.getD s undef = a.tmps.getD s undef) : Region.wanted o (yielded ops a'.tmps) = Region.wanted o (yielded ops a.tmps) := by
  unfold Region.wanted
  cases hg : o.guard with
  | none => rfl
  | some gw =>
    obtain ⟨g, want⟩ := gw
    have : yielded ops a'.tmps g = yielded ops a.tmps g := by
      unfold yielded
      cases ht : (ops[g]?).bind (·.dst) with
      | none => rfl
      | some t =>
        have h1 := heq t (by simp [Oper.looksAt, hg, ht])
        simp only [Option.bind_some]
        simp only [Array.getD_eq_getD_getElem?] at h1
        cases hx : a'.tmps[t]? with
        | none =>
          cases hy : a.tmps[t]? with
          | none => rfl
          | some y =>
            rw [hx, hy] at h1
            simp only [Option.getD_none, Option.getD_some] at h1
            rw [← h1]; rfl
        | some x =>
          cases hy : a.tmps[t]? with
          | none =>
            rw [hx, hy] at h1
            simp only [Option.getD_none, Option.getD_some] at h1
            rw [h1]; rfl
          | some y =>
            rw [hx, hy] at h1
            simp only [Option.getD_some] at h1
            rw [h1]
    simp only [this]

theorem region_grow {id : Nat} {l : List Oper} {Q : Exit → Act → World → Prop} {a : Act} {w : World} (n : Nat) (hm : P.follows .mixedOrders = true) (hB : (regB l.toArray n && Region.noSelect l.toArray && apartB l.toArray n) = true) (hN : dstsB l.toArray n a.tmps.size = true)
    (sps : List Sp) (hl : sps.length = n)
    (h : wpSp P l.toArray w (fun F a' => ∀ w', Own w w' [] → F w' (fun _ => True) → wpList P l.toArray Q (l.drop n) a' w') sps l (fun _ _ => True) a) : (Code.region id l.toArray true).wp P Q a w := by
  simp only [Bool.and_eq_true] at hB
  obtain ⟨⟨hB, hsel⟩, hap⟩ := hB
  have hN' := dstsB_spec hN
  have h' : wpSp P l.toArray w (fun F a' => ∀ w', Own w w' [] → F w' (fun _ => True) → wpList P l.toArray Q (l.drop n) a' w') sps (l.toArray.toList.drop 0) (fun _ _ => True) (frameAt l.toArray (fun _ => undef) a 0) := by simpa [frameAt] using h
  have hat : ∀ (vals : Nat → Value), (∀ j v, sps[j]? = some (.val v) → vals j = v) → ∀ i, i ≤ n → _ := fun vals hv i hi =>
    wpSp_at (P := P) (ops := l.toArray) (w := w) (a := a) vals i sps 0 (fun _ _ => True) (fun j v hj => by rw [Nat.zero_add]; exact hv j v hj) h' (by omega)
  -- the values that go with a frame
  let A : Nat → Asn := fun i => match sps[i]? with | some s => s.asn | none => fun _ _ => True
  let vof : Act → Nat → Value := fun a' j => match sps[j]? with | some (.val v) => v | _ => match (l.toArray[j]?).bind (·.dst) with | some d => a'.tmps.getD d undef | none => undef
  have hvof : ∀ a' j v, sps[j]? = some (.val v) → vof a' j = v := fun a' j v hj => by simp only [vof, hj]
  have hfr : ∀ (a' : Act) (w' : World) (i s : Nat), i ≤ n → asnAt l.toArray (fun s _ v => v = a.tmps.getD s undef) A i s w' (a'.tmps.getD s undef) → a'.tmps.getD s undef = (frameAt l.toArray (vof a') a i).tmps.getD s undef := by
    intro a' w' i s hi hasn
    refine asnAt_frame' i (fun j o d hj => hN' j o d (by omega)) (fun j hj hd hA => ?_) hasn
    have hjs : j < sps.length := by omega
    simp only [A, List.getElem?_eq_getElem hjs] at hA
    simp only [vof, List.getElem?_eq_getElem hjs, hd]
    cases hs : sps[j] with
    | val v => rw [hs] at hA; exact hA
    | rel A0 => rfl
  have hF : ∀ (a' : Act) (w' : World) (i : Nat) (S : Nat → Prop), i ≤ n → (∀ s, S s → asnAt l.toArray (fun s _ v => v = a.tmps.getD s undef) A i s w' (a'.tmps.getD s undef)) →
      ∀ j A0 d, j < i → sps[j]? = some (.rel A0) → l.toArray[0 + j]?.bind (·.dst) = some d → S d → A0 w' (vof a' (0 + j)) := by
    intro a' w' i S hi hS j A0 d hj hs hd hSd
    rw [Nat.zero_add] at hd ⊢
    have h1 := asnAt_of (A := A) hap hd i hi hj (hS d hSd)
    simp only [A, hs] at h1
    simp only [vof, hs, hd]
    exact h1
  have hmono : ∀ k, k < n → Mono (A k) := by
    intro k hk
    have hks : k < sps.length := by omega
    obtain ⟨F', _, f2⟩ := hat (vof a) (hvof a) k (by omega)
    simp only [A, List.getElem?_eq_getElem hks]
    rw [List.drop_eq_getElem_cons hks] at f2
    cases hs : sps[k] with
    | val v => exact Sp.mono_val v
    | rel A0 =>
      rw [hs] at f2
      cases hd : l.toArray.toList.drop (0 + k) with
      | nil => rw [hd] at f2; exact f2.elim
      | cons o rest => rw [hd] at f2; exact f2.1
  refine region_rel n hm hB hN' (fun _ w' => Own w w' []) A ((Own.refl w).drew) ?_ ?_
  · intro i o hi ho listed a' w' _ _ _ hJ hasn
    have his : i < sps.length := by omega
    have hio : i < l.toArray.toList.length := by have := (Array.getElem?_eq_some_iff.1 ho).1; simpa using this
    have heq : ∀ s ∈ o.looksAt l.toArray, a'.tmps.getD s undef = (frameAt l.toArray (vof a') a i).tmps.getD s undef := fun s hs => hfr a' w' i s (by omega) (hasn s hs)
    obtain ⟨F', f1, f2⟩ := hat (vof a') (hvof a') i (by omega)
    have hFw := f1 w' (fun s => s ∈ o.looksAt l.toArray) trivial (hF a' w' i _ (by omega) hasn)
    have hsel' := Region.noSelect_spec hsel
    have hexec : execOp a'.eval o = execOp (frameAt l.toArray (vof a') a i).eval o := execOp_congr o (fun cs b => hsel' i o cs b ho) (fun x hx => by
      cases x with
      | tmp t => exact heq t (List.mem_append_left _ (List.mem_filterMap.2 ⟨.tmp t, by simpa using hx, rfl⟩))
      | _ => rfl)
    rw [wanted_congr heq]
    rw [Nat.zero_add, List.drop_eq_getElem_cons his, List.drop_eq_getElem_cons hio] at f2
    have hoe : l.toArray.toList[i] = o := by
      have := (Array.getElem?_eq_some_iff.1 ho).2
      simpa using this
    rw [hoe] at f2
    obtain ⟨d, hd⟩ := apartB_some hap hi
    have hod : o.dst = some d := by simpa [ho] using hd
    have hdlt : d < (frameAt l.toArray (vof a') a i).tmps.size := by rw [frameAt_size]; exact hN' i o d hi ho hod
    simp only [A, List.getElem?_eq_getElem his]
    cases hs : sps[i] with
    | val v =>
      rw [hs] at f2
      obtain ⟨f2, _⟩ := f2
      have hq := f2 w' hJ hFw
      split at hq
      · rename_i hw
        rw [if_pos hw]
        unfold YieldsTo at hq ⊢
        rw [hexec]
        generalize (execOp (frameAt l.toArray (vof a') a i).eval o).run P w' = r at *
        cases r with
        | halt x w'' => exact hq.elim
        | ok nx w'' =>
          cases nx <;> simp only at hq ⊢
          case value x => exact ⟨hq.1, hJ.trans hq.2, fun k hk _ _ v h => hmono k hk _ _ _ hq.2 h⟩
          case skip => exact ⟨hq.1, hJ.trans hq.2, fun k hk _ _ v h => hmono k hk _ _ _ hq.2 h⟩
          case enter f args => exact hq.mono fun e w3 ⟨u, he, h1, h2⟩ => ⟨u, he, h1, hJ.trans h2, fun k hk _ _ v h => hmono k hk _ _ _ h2 h⟩
      · rename_i hw
        rw [if_neg hw]
        exact ⟨hq, hJ⟩
    | rel A0 =>
      rw [hs] at f2
      obtain ⟨_, hw, f3, _⟩ := f2
      rw [if_pos hw]
      have hy := f3 w' hJ hFw
      unfold YieldsTo at hy ⊢
      rw [hexec]
      generalize (execOp (frameAt l.toArray (vof a') a i).eval o).run P w' = r at *
      cases r with
      | halt x w'' => exact hy.elim
      | ok nx w'' =>
        cases nx <;> simp only at hy ⊢
        case value x => exact ⟨hy.2, hJ.trans hy.1, fun k hk _ _ v h => hmono k hk _ _ _ hy.1 h⟩
        case skip => exact ⟨hy.2, hJ.trans hy.1, fun k hk _ _ v h => hmono k hk _ _ _ hy.1 h⟩
        case enter f args => exact hy.mono fun e w3 ⟨v, he, h1, h2⟩ => ⟨v, he, h2, hJ.trans h1, fun k hk _ _ v h => hmono k hk _ _ _ h1 h⟩
  · intro listed a' w' _ hJ hs hd hasn
    have : a' = frameAt l.toArray (vof a') a n := by
      have h1 := frameAt_size (ops := l.toArray) (vals := vof a') (a := a) n
      have h2 := frameAt_defers (ops := l.toArray) (vals := vof a') (a := a) n
      have h3 : a'.tmps = (frameAt l.toArray (vof a') a n).tmps := by
        apply Array.ext
        · omega
        · intro j hj1 hj2
          have := hfr a' w' n j (Nat.le_refl _) (hasn j)
          simpa [hj1, hj2] using this
      generalize frameAt l.toArray (vof a') a n = fr at h2 h3
      obtain ⟨t1, d1⟩ := a'
      obtain ⟨t3, d3⟩ := fr
      simp only at h2 h3 hd
      rw [h3, hd, h2]
    obtain ⟨F', f1, f2⟩ := hat (vof a') (hvof a') n (Nat.le_refl _)
    have hFw := f1 w' (fun _ => True) trivial (hF a' w' n _ (Nat.le_refl _) (fun s _ => hasn s))
    have hd0 : sps.drop n = [] := List.drop_of_length_le (by omega)
    rw [hd0] at f2
    simp only [wpSp] at f2
    rw [Nat.zero_add, ← this] at f2
    simpa using f2 w' hJ hFw

theorem yieldsTo_val' {o : Oper} {a : Act} {w w' : World} {R : Value → World → Prop} {v : Value} (hrun : (execOp a.eval o).run P w = .ok (.value v) w') (h : R v w') : YieldsTo P o a w R := by
  unfold YieldsTo; rw [hrun]; exact h

/-! ### The steps -/
variable {w : World} {K : (World → (Nat → Prop) → Prop) → Act → Prop} {sps : List Sp} {o : Oper} {rest : List Oper} {F : World → (Nat → Prop) → Prop} {a : Act} {v : Value}

/-- an operation that hangs on no world: it is walked as in a quiet region -/
theorem sp_val (h1 : ∀ w', Own w w' [] → F w' (fun s => s ∈ o.looksAt ops) → wpQuiet P ops (fun w'' => w'' = w') (fun a' => a' = a.put o.dst v) [o] a) (hd : ∃ d, o.dst = some d ∧ d < a.tmps.size)
    (h2 : wpSp P ops w K sps rest F (a.put o.dst v)) : wpSp P ops w K (.val v :: sps) (o :: rest) F a := by
  refine ⟨fun w' hw' hF => ?_, h2⟩
  obtain ⟨d, hd1, hd2⟩ := hd
  have hput : ∀ u, a.put o.dst u = a.put o.dst v → u = v := by
    intro u hu
    have := congrArg (fun x : Act => x.tmps[d]?) hu
    simpa [Act.put, hd1, hd2] using this
  have hq := h1 w' hw' hF
  unfold wpQuiet at hq
  split at hq
  · rename_i hw
    rw [if_pos hw]
    obtain ⟨u, hu1, hu2⟩ := hq
    obtain rfl := hput u hu2
    have hq' := hu1 w' rfl
    unfold Oper.quietAt at hq'
    unfold YieldsTo
    generalize (execOp a.eval o).run P w' = r at *
    cases r with
    | halt x w'' => exact hq'.elim
    | ok nx w'' =>
      cases nx <;> simp only [Oper.quietUpon] at hq' ⊢
      case value x => obtain ⟨rfl, rfl⟩ := hq'; exact ⟨rfl, Own.refl _⟩
      case skip => obtain ⟨rfl, hv⟩ := hq'; exact ⟨hv.symm, Own.refl _⟩
      case enter f args =>
        obtain ⟨rfl, hc⟩ := hq'
        exact hc.mono fun e w3 ⟨he, hc3⟩ => ⟨_, he, rfl, by rw [hc3]; exact Own.refl _⟩
  · rename_i hw
    rw [if_neg hw]
    exact hput _ hq

/-- an operation whose value is known by a run lemma -/
theorem sp_run (hw : Region.wanted o (yielded ops a.tmps) = true) (hrun : ∀ w', Own w w' [] → F w' (fun s => s ∈ o.looksAt ops) → (execOp a.eval o).run P w' = .ok (.value v) w')
    (h2 : wpSp P ops w K sps rest F (a.put o.dst v)) : wpSp P ops w K (.val v :: sps) (o :: rest) F a := by
  refine ⟨fun w' hw' hF => ?_, h2⟩
  rw [if_pos hw]
  exact yieldsTo_val (hrun w' hw' hF) ⟨rfl, Own.refl _⟩

theorem sp_skip (hw : Region.wanted o (yielded ops a.tmps) = false) (h2 : wpSp P ops w K sps rest F (a.put o.dst undef)) : wpSp P ops w K (.val undef :: sps) (o :: rest) F a := by
  refine ⟨fun w' hw' hF => ?_, h2⟩
  rw [if_neg (by rw [hw]; exact Bool.false_ne_true)]

/-- a call whose value is known -/
theorem sp_call (hw : Region.wanted o (yielded ops a.tmps) = true) {f : Nat} {args : Array Value} (hrun : ∀ w', (execOp a.eval o).run P w' = .ok (.enter f args) w')
    (h1 : ∀ w', Own w w' [] → F w' (fun s => s ∈ o.looksAt ops) → Calls P f args w' fun e w'' => e = .returned v ∧ Own w' w'' [])
    (h2 : wpSp P ops w K sps rest F (a.put o.dst v)) : wpSp P ops w K (.val v :: sps) (o :: rest) F a := by
  refine ⟨fun w' hw' hF => ?_, h2⟩
  rw [if_pos hw]
  unfold YieldsTo
  rw [hrun w']
  exact (h1 w' hw' hF).mono fun e w'' ⟨he, h⟩ => ⟨_, he, rfl, h⟩

/-- a call of a function that the source names -/
theorem sp_callN (hw : Region.wanted o (yielded ops a.tmps) = true) {f : Nat} {fn : Func} {xs : Array Operand} {ats : Array TypeId} {args : Array Value} (hop : o.op = .call { callee := .value (.func f), args := xs, argTypes := ats }) (hargs : xs.map a.eval = args)
    (hf : P.funcs[f]? = some fn) (hname : (fn.name == "runtime.NumGoroutine") = false) (hb : fn.body.isNone = false)
    (h1 : ∀ w', Own w w' [] → F w' (fun s => s ∈ o.looksAt ops) → Calls P f args w' fun e w'' => e = .returned v ∧ Own w' w'' [])
    (h2 : wpSp P ops w K sps rest F (a.put o.dst v)) : wpSp P ops w K (.val v :: sps) (o :: rest) F a :=
  sp_call hw (fun w' => by rw [Conc.run_call_body hop hf hname hb, hargs]) h1 h2

/-- an operation whose value is known by an assertion -/
theorem sp_rel {A : World → Value → Prop} (hm : Mono A) (hw : Region.wanted o (yielded ops a.tmps) = true) (h1 : ∀ w', Own w w' [] → F w' (fun s => s ∈ o.looksAt ops) → YieldsTo P o a w' (fun v w'' => Own w' w'' [] ∧ A w'' v))
    (h2 : ∀ v, wpSp P ops w K sps rest (fun w' S => F w' S ∧ ∀ d, o.dst = some d → S d → A w' v) (a.put o.dst v)) : wpSp P ops w K (.rel A :: sps) (o :: rest) F a := ⟨hm, hw, h1, h2⟩

/-- reads as these cells -/
def SlIs (n : Nat) (xs : List Value) : World → Value → Prop := fun w v => (∃ p c, v = .slice p n c) ∧ SlAt w v n xs
theorem SlIs.mono (n : Nat) (xs : List Value) : Mono (SlIs n xs) := fun _ _ _ h ⟨h1, h2⟩ => ⟨h1, h2.own0 h⟩

/-- a slice literal -/
theorem sp_lit {t el : TypeId} {len : Nat} {parts : Array (Nat × Operand)} (hg : o.guard = none) (ho : o.op = .buildSlice t len parts) {cs : List Value} (hl : len = cs.length)
    (hf : ∀ w', (Instr.buildSlice t len (parts.map fun (i, x) => (i, a.eval x))).run P w' = .ok (.slice (some ⟨w'.heap.size, 0, none⟩) len len) (w'.alloc (.cells cs.toArray el)))
    (h2 : ∀ v, wpSp P ops w K sps rest (fun w' S => F w' S ∧ ∀ d, o.dst = some d → S d → SlIs len cs w' v) (a.put o.dst v)) : wpSp P ops w K (.rel (SlIs len cs) :: sps) (o :: rest) F a := by
  refine sp_rel (SlIs.mono _ _) (by simp [Region.wanted, hg]) (fun w' hw' hF => ?_) h2
  obtain ⟨n, w1, hr, hn, ho1⟩ := rn_buildSlice (o := o) (a := a) (Own.refl w') ho hf
  refine yieldsTo_val' hr ⟨ho1.end0 (by simpa using hn), ⟨_, _, rfl⟩, ?_⟩
  subst hl
  exact Or.inr ⟨n, 0, cs.length, rfl, ⟨Nat.le_refl _, List.eq_nil_of_length_eq_zero⟩, fun i x hx => by rw [ho1.cell (.head _), Nat.zero_add]; exact hx⟩

/-- The same, the values left open (one 'apply Exists.intro' each): 'none': a value, 'some A': an assertion. -/
def exSp : List (Option (World → Value → Prop)) → (List Sp → Prop) → Prop
  | [], k => k []
  | none :: ks, k => ∃ v, exSp ks (fun l => k (.val v :: l))
  | some A :: ks, k => exSp ks (fun l => k (.rel A :: l))

theorem exSp_spec : ∀ (ks : List (Option (World → Value → Prop))) (k : List Sp → Prop), exSp ks k → ∃ l, l.length = ks.length ∧ k l
  | [], _, h => ⟨[], rfl, h⟩
  | none :: ks, k, ⟨v, h⟩ => by
    obtain ⟨l, h1, h2⟩ := exSp_spec ks _ h
    exact ⟨.val v :: l, by simp [h1], h2⟩
  | some A :: ks, k, h => by
    obtain ⟨l, h1, h2⟩ := exSp_spec ks _ h
    exact ⟨.rel A :: l, by simp [h1], h2⟩

theorem region_growE {id : Nat} {l : List Oper} {Q : Exit → Act → World → Prop} {a : Act} {w : World} (n : Nat) (hm : P.follows .mixedOrders = true) (hB : (regB l.toArray n && Region.noSelect l.toArray && apartB l.toArray n) = true) (hN : dstsB l.toArray n a.tmps.size = true)
    (ks : List (Option (World → Value → Prop))) (hl : ks.length = n)
    (h : exSp ks fun sps => wpSp P l.toArray w (fun F a' => ∀ w', Own w w' [] → F w' (fun _ => True) → wpList P l.toArray Q (l.drop n) a' w') sps l (fun _ _ => True) a) : (Code.region id l.toArray true).wp P Q a w := by
  obtain ⟨sps, h1, h2⟩ := exSp_spec ks _ h
  exact region_grow n hm hB hN sps (h1.trans hl) h2

theorem sp_nil (h : K F a) {l : List Oper} : wpSp P ops w K [] l F a := by
  cases l <;> exact h

end
end Go.Proofs.Ytjcnhpnadfhjaaa
