/- A region that draws its order, by what is known of each temporary: one obligation an operation, whatever the order; the last operations, whose order is forced, are walked behind it. No dump, no condition. -/
import Derived.Test.YtjcnhpnadfhjaaaMem
import Derived.Orders
import Derived.Deep.Quiet
namespace Go.Proofs.Ytjcnhpnadfhjaaa
open Go.RowKit

/-- But for the blocks S all that was there is as it was. -/
structure Keep (S : Nat → Prop) (w w' : World) : Prop where
  os : w'.os = w.os
  tape : w'.tape = w.tape
  output : w'.output = w.output
  size : w.heap.size ≤ w'.heap.size
  block : ∀ k, k < w.heap.size → ¬ S k → w'.heap[k]? = w.heap[k]?

theorem Keep.refl (S : Nat → Prop) (w : World) : Keep S w w := ⟨rfl, rfl, rfl, Nat.le_refl _, fun _ _ _ => rfl⟩
theorem Keep.of_own {w w' : World} (h : Own w w' []) (S : Nat → Prop) : Keep S w w' := ⟨h.os, h.tape, h.output, h.size, fun k hk _ => h.keep k hk (by simp)⟩
theorem Keep.own {w w' : World} (h : Keep (fun _ => False) w w') : Own w w' [] := ⟨h.os, h.tape, h.output, h.size, fun k hk _ => h.block k hk id, List.nodup_nil, fun _ _ _ h => by cases h⟩

abbrev Asn := World → Value → Prop

/-- What an operation has done: its value and the world behind it. -/
def YieldsTo (P : Program) (o : Oper) (a : Act) (w : World) (R : Value → World → Prop) : Prop :=
  match (execOp a.eval o).run P w with
  | .ok (.value v) w' => R v w'
  | .ok .skip w' => R undef w'
  | .ok (.enter f args) w' => Calls P f args w' fun e w'' => ∃ v, e = .returned v ∧ R v w''
  | _ => False

theorem YieldsTo.wp {P : Program} {o : Oper} {a : Act} {w : World} {R : Value → World → Prop} {K : Act → World → Prop} {Q : Exit → Act → World → Prop}
    (h : YieldsTo P o a w R) (hk : ∀ v w', R v w' → K (a.put o.dst v) w') : o.wp P a w K Q := by
  unfold YieldsTo at h
  unfold Oper.wp
  generalize (execOp a.eval o).run P w = r at *
  cases r with
  | halt x w' => exact h.elim
  | ok n w' =>
    cases n <;> simp only [Oper.upon] at h ⊢ <;> first
      | exact hk _ _ h
      | exact h.elim
      | (refine h.mono ?_; rintro e w'' ⟨v, rfl, hr⟩; exact hk _ _ hr)

theorem yieldsTo_val {P : Program} {o : Oper} {a : Act} {w : World} {R : Value → World → Prop} {v : Value} (hrun : (execOp a.eval o).run P w = .ok (.value v) w) (h : R v w) : YieldsTo P o a w R := by
  unfold YieldsTo; rw [hrun]; exact h

section
variable (ops : Array Oper) (n : Nat)

def waitsB (j i : Nat) : Bool := match ops[j]? with | some o => o.after.any fun e => Region.binds .any e && e.on == i | none => false

def clashB (i j : Nat) : Bool :=
  match ops[i]?, ops[j]? with
  | some x, some y =>
    (match x.dst with | some d => (y.looksAt ops).contains d || y.dst == some d | none => false) || (match y.dst with | some d => (x.looksAt ops).contains d | none => false)
  | _, _ => false

/-- In the first n operations whatever is not apart waits, the later one for the earlier one; the last ones stand behind them in one order. -/
def regB : Bool :=
  ((List.range n).all fun j => (List.range j).all fun i => !clashB ops i j || waitsB ops j i) &&
  ((List.range n).all fun i => decide (ops.size = n) || (List.range (n + 1)).any fun j => decide (i < j) && waitsB ops j i) &&
  ((List.range ops.size).all fun t => decide (t ≤ n) || waitsB ops t (t - 1)) &&
  ((List.range ops.size).all fun t => match ops[t]? with | some o => o.after.all fun e => !Region.binds .any e || decide (e.on < t) | none => true) &&
  decide (n ≤ ops.size)

/-- What is known of a temporary behind the first k operations, in the text's order. -/
def asnAt (F0 : Nat → Asn) (A : Nat → Asn) : Nat → Nat → Asn
  | 0, s => F0 s
  | k + 1, s => if (ops[k]?).bind (·.dst) = some s then A k else asnAt F0 A k s

/-- .. in whatever order, those listed done. -/
def asnOf (F0 : Nat → Asn) (A : Nat → Asn) (listed : Array Bool) : Nat → Nat → Asn
  | 0, s => F0 s
  | k + 1, s => if listed.getD k false = true ∧ (ops[k]?).bind (·.dst) = some s then A k else asnOf F0 A listed k s

variable {ops n}

theorem asnOf_full {F0 A : Nat → Asn} {listed : Array Bool} {s : Nat} : ∀ k, (∀ j, j < k → (ops[j]?).bind (·.dst) = some s → listed.getD j false = true) → asnOf ops F0 A listed k s = asnAt ops F0 A k s
  | 0, _ => rfl
  | k + 1, h => by
    simp only [asnOf, asnAt]
    have ih := asnOf_full (F0 := F0) (A := A) k (fun j hj => h j (by omega))
    by_cases hd : (ops[k]?).bind (·.dst) = some s
    · rw [if_pos ⟨h k (by omega) hd, hd⟩, if_pos hd]
    · rw [if_neg (fun hh => hd hh.2), if_neg hd, ih]

theorem asnOf_later {F0 A : Nat → Asn} {listed : Array Bool} {s i : Nat} : ∀ k, i ≤ k → (∀ j, i ≤ j → j < k → (ops[j]?).bind (·.dst) = some s → listed.getD j false = false) → asnOf ops F0 A listed k s = asnOf ops F0 A listed i s
  | 0, h0, _ => by have : i = 0 := by omega
                   subst this; rfl
  | k + 1, h0, h => by
    by_cases hik : i = k + 1
    · subst hik; rfl
    · simp only [asnOf]
      rw [if_neg (fun hh => by have := h k (by omega) (by omega) hh.2; rw [this] at hh; cases hh.1)]
      exact asnOf_later k (by omega) (fun j h1 h2 => h j h1 (by omega))

theorem asnOf_congr {F0 A : Nat → Asn} {l1 l2 : Array Bool} {s : Nat} : ∀ k, (∀ j, j < k → (ops[j]?).bind (·.dst) = some s → l1.getD j false = l2.getD j false) → asnOf ops F0 A l1 k s = asnOf ops F0 A l2 k s
  | 0, _ => rfl
  | k + 1, h => by
    simp only [asnOf]
    have ih := asnOf_congr (F0 := F0) (A := A) k (fun j hj => h j (by omega))
    by_cases hd : (ops[k]?).bind (·.dst) = some s
    · rw [h k (by omega) hd, ih]
    · rw [if_neg (fun hh => hd hh.2), if_neg (fun hh => hd hh.2), ih]

theorem asnOf_mono {F0 A : Nat → Asn} {listed : Array Bool} {s : Nat} {w w' : World} {v : Value} (h0 : ∀ v, F0 s w v → F0 s w' v) : ∀ k, (∀ i, i < k → listed.getD i false = true → ∀ v, A i w v → A i w' v) → asnOf ops F0 A listed k s w v → asnOf ops F0 A listed k s w' v
  | 0, _, h => h0 _ h
  | k + 1, hA, h => by
    simp only [asnOf] at h ⊢
    split at h
    · rename_i hc; rw [if_pos hc]; exact hA k (by omega) hc.1 _ h
    · rename_i hc; rw [if_neg hc]; exact asnOf_mono h0 k (fun i hi => hA i (by omega)) h

theorem waitsB_spec {j i : Nat} (h : waitsB ops j i = true) : ∃ o, ops[j]? = some o ∧ ∃ e ∈ o.after, Region.binds .any e = true ∧ e.on = i := by
  unfold waitsB at h
  split at h
  · rename_i o ho
    obtain ⟨e, he, hb⟩ := Array.any_eq_true'.1 h
    simp only [Bool.and_eq_true, beq_iff_eq] at hb
    exact ⟨o, ho, e, he, hb.1, hb.2⟩
  · cases h

def closedL (ops : Array Oper) (listed : Array Bool) : Prop := ∀ j i, waitsB ops j i = true → listed.getD j false = true → listed.getD i false = true

theorem getD_ff {listed : Array Bool} {i : Nat} (h : listed.getD i true = false) : listed.getD i false = false := by
  rcases Nat.lt_or_ge i listed.size with h' | h'
  · simp [h'] at h ⊢; exact h
  · simp [Array.getElem?_eq_none h'] at h
theorem getD_setT {listed : Array Bool} {i j : Nat} (d : Bool) : (listed.setIfInBounds i true).getD j d = if i = j ∧ i < listed.size then true else listed.getD j d := by
  simp only [Array.getD_eq_getD_getElem?, Array.getElem?_setIfInBounds]
  by_cases hij : i = j
  · subst hij
    by_cases hl : i < listed.size
    · simp [hl]
    · simp [hl]
  · simp [hij]

theorem getD_replicate_false' (m j : Nat) : (Array.replicate m false).getD j false = false := by
  rcases Nat.lt_or_ge j m with h | h
  · simp [h]
  · simp [h]

theorem region_rel {P : Program} {id : Nat} {Q : Exit → Act → World → Prop} {a : Act} {w : World} (n : Nat) (hm : P.follows .mixedOrders = true) (hB : regB ops n = true)
    (hN : ∀ i o d, i < n → ops[i]? = some o → o.dst = some d → d < a.tmps.size)
    (J : Array Bool → World → Prop) (A : Nat → Asn)
    (hJ : J (Array.replicate ops.size false) { w with drawn := w.drawn + 1 })
    (hop : ∀ i o, i < n → ops[i]? = some o → ∀ (listed : Array Bool) (a' : Act) (w' : World), closedL ops listed → (∀ k, waitsB ops i k = true → listed.getD k false = true) → listed.getD i false = false → J listed w' →
      (∀ s ∈ o.looksAt ops, asnAt ops (fun s _ v => v = a.tmps.getD s undef) A i s w' (a'.tmps.getD s undef)) →
      if Region.wanted o (yielded ops a'.tmps) then YieldsTo P o a' w' (fun v w'' => A i w'' v ∧ J (listed.setIfInBounds i true) w'' ∧ ∀ k, k < n → k ≠ i → listed.getD k false = true → ∀ v, A k w' v → A k w'' v) else A i w' undef ∧ J (listed.setIfInBounds i true) w')
    (hend : ∀ (listed : Array Bool) (a' : Act) (w' : World), (∀ k, k < n → listed.getD k false = true) → J listed w' → a'.tmps.size = a.tmps.size → a'.defers = a.defers →
      (∀ s, asnAt ops (fun s _ v => v = a.tmps.getD s undef) A n s w' (a'.tmps.getD s undef)) → wpList P ops Q (ops.toList.drop n) a' w') :
    (Code.region id ops true).wp P Q a w := by
  simp only [regB, Bool.and_eq_true, List.all_eq_true, List.mem_range, Bool.or_eq_true, Bool.not_eq_true', List.any_eq_true, decide_eq_true_eq] at hB
  obtain ⟨⟨⟨⟨hsep, hsink⟩, hchain⟩, hback⟩, hn⟩ := hB
  have hbk : ∀ j i, waitsB ops j i = true → i < j := fun j i h => by
    obtain ⟨o, ho, e, he, hb, rfl⟩ := waitsB_spec h
    have h1 := hback j (Array.getElem?_eq_some_iff.1 ho).1
    rw [ho] at h1
    have h2 := (Array.all_eq_true_iff_forall_mem.1 h1) e he
    simpa [hb] using h2
  let F0 : Nat → Asn := fun s _ v => v = a.tmps.getD s undef
  -- the two phases
  let I1 : Array Bool → Act → World → Prop := fun listed a' w' =>
    (∀ t, n ≤ t → listed.getD t false = false) ∧ J listed w' ∧ a'.tmps.size = a.tmps.size ∧ a'.defers = a.defers ∧ ∀ s, asnOf ops F0 A listed n s w' (a'.tmps.getD s undef)
  let I2 : Array Bool → Act → World → Prop := fun listed a' w' =>
    ∃ t, n ≤ t ∧ t ≤ ops.size ∧ (∀ k, k < t → listed.getD k false = true) ∧ (∀ k, t ≤ k → listed.getD k false = false) ∧ wpList P ops Q (ops.toList.drop t) a' w'
  let I : Array Bool → Act → World → Prop := fun listed a' w' => listed.size = ops.size ∧ closedL ops listed ∧ (I1 listed a' w' ∨ I2 listed a' w')
  have hlist : ∀ (listed : Array Bool) i o, listed.size = ops.size → closedL ops listed → i ∈ Region.ready .any ops listed → ops[i]? = some o →
      (listed.setIfInBounds i true).size = ops.size ∧ closedL ops (listed.setIfInBounds i true) ∧ (∀ k, waitsB ops i k = true → listed.getD k false = true) := by
    intro listed i o hs hc hi ho
    obtain ⟨hun, o', ho', hall⟩ := mem_ready.1 hi
    have hw : ∀ k, waitsB ops i k = true → listed.getD k false = true := fun k hk => by
      obtain ⟨o2, ho2, e, he, hb, hon⟩ := waitsB_spec hk
      have : o2 = o' := Option.some.inj (ho2.symm.trans ho')
      subst this
      rw [← hon]; exact hall e he hb
    refine ⟨by simpa using hs, ?_, hw⟩
    intro j k hjk hj
    rw [getD_setT] at hj ⊢
    split
    · rfl
    · split at hj
      · rename_i h1; rw [← h1.1] at hjk; exact hw k hjk
      · exact hc j k hjk hj
  -- from the whole of the first n to the tail
  have to2 : ∀ listed a' w', (∀ k, k < n → listed.getD k false = true) → I1 listed a' w' → I2 listed a' w' := by
    intro listed a' w' hall ⟨h1, h2, h3, h4, h5⟩
    refine ⟨n, Nat.le_refl _, hn, hall, h1, hend listed a' w' hall h2 h3 h4 (fun s => ?_)⟩
    have := h5 s
    rwa [asnOf_full n (fun j hj _ => hall j hj)] at this
  -- one operation
  have hstep : ∀ listed a' w', I listed a' w' → ∀ i, i ∈ Region.ready .any ops listed → wpOp P ops Q i (I (listed.setIfInBounds i true)) a' w' := by
    intro listed a' w' ⟨hs, hc, hI⟩ i hi
    obtain ⟨hun, o, ho, hall⟩ := mem_ready.1 hi
    obtain ⟨hs', hc', hw⟩ := hlist listed i o hs hc hi ho
    have hilt : i < ops.size := (Array.getElem?_eq_some_iff.1 ho).1
    have hunf := getD_ff hun
    -- phase one or two
    have key : (i < n ∧ I1 listed a' w') ∨ I2 listed a' w' := by
      rcases hI with h1 | h2
      · by_cases hin : i < n
        · exact Or.inl ⟨hin, h1⟩
        · right
          refine to2 _ _ _ (fun k hk => ?_) h1
          -- all before n are done
          have hi_n : i = n := by
            by_cases e : i = n
            · exact e
            · have h3 := hchain i hilt
              rcases h3 with h3 | h3
              · omega
              · have h4 := hw _ h3
                rw [h1.1 (i - 1) (by omega)] at h4; cases h4
          subst hi_n
          have hall2 : ∀ d k, i - k = d → k < i → listed.getD k false = true := by
            intro d
            induction d using Nat.strongRecOn with
            | _ d ih =>
              intro k hd hk
              rcases hsink k hk with h3 | ⟨j, hj, hj2⟩
              · omega
              · by_cases e : j = i
                · subst e; exact hw k hj2.2
                · exact hc j k hj2.2 (ih (i - j) (by omega) j rfl (by omega))
          exact hall2 _ k rfl hk
      · exact Or.inr h2
    unfold wpOp
    simp only [ho]
    rcases key with ⟨hin, h1, h2, h3, h4, h5⟩ | ⟨t, ht1, ht2, ht3, ht4, ht5⟩
    · -- an operation of the first n
      have hasn : ∀ s ∈ o.looksAt ops, asnAt ops F0 A i s w' (a'.tmps.getD s undef) := by
        intro s hsl
        have h6 := h5 s
        have e1 : asnOf ops F0 A listed n s = asnOf ops F0 A listed i s := asnOf_later n (by omega) (fun j h7 h8 hd => by
          cases hlj : listed.getD j false with
          | false => rfl
          | true =>
            by_cases e : j = i
            · subst e; rw [hunf] at hlj; cases hlj
            · have h9 := hsep j h8 i (by omega)
              cases hoj : ops[j]? with
              | none => simp [hoj] at hd
              | some oj =>
                simp only [hoj, Option.bind_some] at hd
                have hcl : clashB ops i j = true := by
                  unfold clashB
                  simp only [ho, hoj, hd]
                  simp [hsl]
                rw [hcl] at h9
                rcases h9 with h9 | h9
                · cases h9
                · have := hc j i h9 hlj
                  rw [hunf] at this; cases this)
        have e2 : asnOf ops F0 A listed i s = asnAt ops F0 A i s := asnOf_full i (fun j h7 hd => by
          have h9 := hsep i hin j h7
          cases hoj : ops[j]? with
          | none => simp [hoj] at hd
          | some oj =>
            simp only [hoj, Option.bind_some] at hd
            have hcl : clashB ops j i = true := by
              unfold clashB
              simp only [ho, hoj, hd]
              simp [hsl]
            rw [hcl] at h9
            rcases h9 with h9 | h9
            · cases h9
            · exact hw j h9)
        rw [e1, e2] at h6
        exact h6
      have hmain := hop i o hin ho listed a' w' hc hw hunf h2 hasn
      -- behind it
      have hnext : ∀ v w'', A i w'' v → J (listed.setIfInBounds i true) w'' → (∀ k, k < n → k ≠ i → listed.getD k false = true → ∀ v, A k w' v → A k w'' v) → I (listed.setIfInBounds i true) (a'.put o.dst v) w'' := by
        intro v w'' hv hJ' hk
        refine ⟨hs', hc', Or.inl ⟨fun t ht => ?_, hJ', ?_, ?_, fun s => ?_⟩⟩
        · rw [getD_setT, if_neg (by omega)]; exact h1 t ht
        · cases hd : o.dst with
          | none => simp [Act.put, h3]
          | some d => simp [Act.put, h3]
        · cases hd : o.dst with
          | none => simp [Act.put, h4]
          | some d => simp [Act.put, h4]
        · have hcarry : asnOf ops F0 A listed n s w'' (a'.tmps.getD s undef) := by
            refine asnOf_mono (w := w') (w' := w'') (fun _ h => h) n (fun k hk1 hk2 => hk k hk1 (fun e => ?_) hk2) (h5 s)
            subst e; rw [hunf] at hk2; cases hk2
          by_cases hds : o.dst = some s
          · -- its own temporary
            have hsz := hN i o s hin ho hds
            have hget : (a'.put o.dst v).tmps.getD s undef = v := by
              rw [hds]; simp [Act.put, h3, hsz]
            rw [hget]
            have e1 : asnOf ops F0 A (listed.setIfInBounds i true) n s = asnOf ops F0 A (listed.setIfInBounds i true) (i + 1) s := asnOf_later n (by omega) (fun j h7 h8 hd => by
              rw [getD_setT, if_neg (by omega)]
              cases hlj : listed.getD j false with
              | false => rfl
              | true =>
                have h9 := hsep j h8 i (by omega)
                cases hoj : ops[j]? with
                | none => simp [hoj] at hd
                | some oj =>
                  simp only [hoj, Option.bind_some] at hd
                  have hcl : clashB ops i j = true := by
                    unfold clashB
                    simp only [ho, hoj, hd, hds]
                    simp
                  rw [hcl] at h9
                  rcases h9 with h9 | h9
                  · cases h9
                  · have := hc j i h9 hlj
                    rw [hunf] at this; cases this)
            rw [e1]
            simp only [asnOf]
            rw [if_pos ⟨by rw [getD_setT, if_pos ⟨rfl, by omega⟩], by rw [ho]; exact hds⟩]
            exact hv
          · have hget : (a'.put o.dst v).tmps.getD s undef = a'.tmps.getD s undef := by
              cases hd : o.dst with
              | none => rfl
              | some d =>
                have hne : d ≠ s := fun e => hds (by rw [hd, e])
                simp [Act.put, Array.getElem?_setIfInBounds_ne hne]
            rw [hget]
            have e1 : asnOf ops F0 A (listed.setIfInBounds i true) n s = asnOf ops F0 A listed n s := asnOf_congr n (fun j h7 hd => by
              rw [getD_setT, if_neg]
              rintro ⟨rfl, _⟩
              rw [ho] at hd; exact hds hd)
            rw [e1]; exact hcarry
      split
      · rename_i hwt
        rw [if_pos hwt] at hmain
        exact Or.inl (hmain.wp fun v w'' ⟨hv, hJ', hk⟩ => hnext v w'' hv hJ' hk)
      · rename_i hwt
        rw [if_neg hwt] at hmain
        exact hnext undef w' hmain.1 hmain.2 (fun _ _ _ _ _ h => h)
    · -- the tail
      have hit : i = t := by
        have h6 : t ≤ i := by
          rcases Nat.lt_or_ge i t with h | h
          · have := ht3 i h; rw [hunf] at this; cases this
          · exact h
        by_cases e : i = t
        · exact e
        · rcases hchain i hilt with h7 | h7
          · omega
          · have := hw _ h7
            rw [ht4 (i - 1) (by omega)] at this; cases this
      subst hit
      have hdrop : ops.toList.drop i = o :: ops.toList.drop (i + 1) := by
        rw [List.drop_eq_getElem_cons (by simpa using hilt)]
        congr 1
        have := (Array.getElem?_eq_some_iff.1 ho).2
        simpa using this
      rw [hdrop] at ht5
      have hnext : ∀ a'' w'', wpList P ops Q (ops.toList.drop (i + 1)) a'' w'' → I (listed.setIfInBounds i true) a'' w'' := by
        intro a'' w'' h
        refine ⟨hs', hc', Or.inr ⟨i + 1, by omega, by omega, fun k hk => ?_, fun k hk => ?_, h⟩⟩
        · rw [getD_setT]
          split
          · rfl
          · rename_i h6
            exact ht3 k (by
              by_cases e : i = k
              · exact absurd ⟨e, by omega⟩ h6
              · omega)
        · rw [getD_setT, if_neg (by omega)]; exact ht4 k (by omega)
      unfold wpList at ht5
      split
      · rename_i hwt
        rw [if_pos hwt] at ht5
        rcases ht5 with h | h
        · exact Or.inl (Oper.wp_mono (fun a w h => hnext a w h) h)
        · exact Or.inr h
      · rename_i hwt
        rw [if_neg hwt] at ht5
        exact hnext _ _ ht5
  -- nothing is left
  have hdone : ∀ listed a' w', I listed a' w' → Region.ready .any ops listed = [] → Q .normal a' w' := by
    intro listed a' w' ⟨hs, hc, hI⟩ hr
    have hallD : ∀ k, k < ops.size → listed.getD k false = true := by
      intro k
      induction k using Nat.strongRecOn with
      | _ k ih =>
        intro hk
        cases hl : listed.getD k false with
        | true => rfl
        | false =>
          have hmem : k ∈ Region.ready .any ops listed := by
            refine mem_ready.2 ⟨by simpa [hs, hk] using hl, ops[k], by simp [hk], fun e he hb => ?_⟩
            have hwk : waitsB ops k e.on = true := by
              unfold waitsB
              simp only [Array.getElem?_eq_getElem hk]
              exact Array.any_eq_true'.2 ⟨e, he, by simp [hb]⟩
            have := hbk k e.on hwk
            exact ih e.on this (by omega)
          rw [hr] at hmem; cases hmem
    have h2 : I2 listed a' w' := by
      rcases hI with h1 | h2
      · exact to2 _ _ _ (fun k hk => hallD k (by omega)) h1
      · exact h2
    obtain ⟨t, ht1, ht2, ht3, ht4, ht5⟩ := h2
    have : t = ops.size := by
      rcases Nat.lt_or_ge t ops.size with h | h
      · have := hallD t h; rw [ht4 t (Nat.le_refl _)] at this; cases this
      · omega
    subst this
    rw [List.drop_of_length_le (by simp)] at ht5
    exact ht5
  -- the walk
  refine wp_region_any hm ?_
  have hwalk : ∀ fuel (listed : Array Bool) a' w', ((List.range ops.size).filter fun i => !listed.getD i true).length ≤ fuel → I listed a' w' → wpAny P .any ops Q fuel listed a' w' := by
    intro fuel
    induction fuel with
    | zero =>
      intro listed a' w' hf hI
      have hr : Region.ready .any ops listed = [] := by
        rw [List.eq_nil_iff_forall_not_mem]
        intro i hi
        have hm' : i ∈ (List.range ops.size).filter fun i => !listed.getD i true := by
          obtain ⟨hun, o, ho, _⟩ := mem_ready.1 hi
          exact List.mem_filter.2 ⟨List.mem_range.2 (Array.getElem?_eq_some_iff.1 ho).1, by rw [hun]; rfl⟩
        have := List.length_pos_of_mem hm'
        omega
      exact ⟨hr, hdone _ _ _ hI hr⟩
    | succ fuel ih =>
      intro listed a' w' hf hI
      refine ⟨hdone _ _ _ hI, fun i hi => ?_⟩
      refine wpOp_mono (fun a'' w'' h => ih _ a'' w'' ?_ h) (hstep _ _ _ hI i hi)
      obtain ⟨hun, o, ho, _⟩ := mem_ready.1 hi
      have hilt : i < ops.size := (Array.getElem?_eq_some_iff.1 ho).1
      have hm' : i ∈ (List.range ops.size).filter fun i => !listed.getD i true := List.mem_filter.2 ⟨List.mem_range.2 hilt, by rw [hun]; rfl⟩
      have hsub : ((List.range ops.size).filter fun j => !(listed.setIfInBounds i true).getD j true).length < ((List.range ops.size).filter fun j => !listed.getD j true).length := by
        have h1 : ((List.range ops.size).filter fun j => !(listed.setIfInBounds i true).getD j true) = ((List.range ops.size).filter fun j => !listed.getD j true).filter (fun j => j != i) := by
          rw [List.filter_filter]
          apply List.filter_congr
          intro j _
          rw [getD_setT]
          by_cases e : i = j
          · subst e
            by_cases hl : i < listed.size
            · simp [hl]
            · simp [hl]
          · have e' : (j != i) = true := by simp; omega
            simp [e, e']
        rw [h1]
        exact List.length_filter_lt_length_iff_exists.2 ⟨i, hm', by simp⟩
      omega
  refine hwalk ops.size _ a _ ?_ ⟨by simp, fun j i h hj => ?_, Or.inl ⟨fun t _ => ?_, hJ, rfl, rfl, fun s => ?_⟩⟩
  · exact Nat.le_trans (List.length_filter_le _ _) (by simp)
  · exfalso
    rw [getD_replicate_false'] at hj; cases hj
  · exact getD_replicate_false' _ _
  · have : ∀ k, asnOf ops F0 A (Array.replicate ops.size false) k s = F0 s := by
      intro k
      induction k with
      | zero => rfl
      | succ k ih =>
        simp only [asnOf]
        rw [if_neg (fun h => by rw [getD_replicate_false'] at h; cases h.1), ih]
    rw [this]

/-! ### Where the values do not hang on the world: one walk, in the text's order -/

/-- The frame behind the first k operations, in the text's order. -/
def frameAt (ops : Array Oper) (vals : Nat → Value) (a : Act) : Nat → Act
  | 0 => a
  | k + 1 => (frameAt ops vals a k).put ((ops[k]?).bind (·.dst)) (vals k)

theorem frameAt_size {vals : Nat → Value} {a : Act} : ∀ k, (frameAt ops vals a k).tmps.size = a.tmps.size
  | 0 => rfl
  | k + 1 => by
    have ih := frameAt_size (vals := vals) (a := a) k
    simp only [frameAt]
    cases (ops[k]?).bind (·.dst) <;> simp [Act.put, ih]

theorem frameAt_defers {vals : Nat → Value} {a : Act} : ∀ k, (frameAt ops vals a k).defers = a.defers
  | 0 => rfl
  | k + 1 => by
    have ih := frameAt_defers (vals := vals) (a := a) k
    simp only [frameAt]
    cases (ops[k]?).bind (·.dst) <;> simp [Act.put, ih]

theorem asnAt_frame {vals : Nat → Value} {a : Act} {s : Nat} {w : World} {x : Value} : ∀ k, (∀ i o d, i < k → ops[i]? = some o → o.dst = some d → d < a.tmps.size) →
    asnAt ops (fun s _ v => v = a.tmps.getD s undef) (fun i _ v => v = vals i) k s w x → x = (frameAt ops vals a k).tmps.getD s undef
  | 0, _, h => h
  | k + 1, hN, h => by
    simp only [asnAt] at h
    simp only [frameAt]
    split at h
    · rename_i hd
      rw [hd]
      cases ho : ops[k]? with
      | none => simp [ho] at hd
      | some o =>
        simp only [ho, Option.bind_some] at hd
        have hlt := hN k o s (by omega) ho hd
        have hsz := frameAt_size (ops := ops) (vals := vals) (a := a) k
        simp [Act.put, hsz, hlt, h]
    · rename_i hd
      have ih := asnAt_frame (vals := vals) (a := a) k (fun i o d hi => hN i o d (by omega)) h
      rw [ih]
      cases hb : (ops[k]?).bind (·.dst) with
      | none => rfl
      | some d =>
        have hne : d ≠ s := fun e => hd (by rw [hb, e])
        simp [Act.put, Array.getElem?_setIfInBounds_ne hne]

theorem quiet_vals {P : Program} {C : World → Prop} {K : Act → Prop} : ∀ (m k : Nat) (a0 : Act) (vals : Nat → Value), k + m ≤ ops.size →
    wpQuiet P ops C K ((ops.toList.drop k).take m) (frameAt ops vals a0 k) →
    ∃ vals', (∀ i, i < k → vals' i = vals i) ∧ (∀ i o, k ≤ i → i < k + m → ops[i]? = some o →
      (Region.wanted o (yielded ops (frameAt ops vals' a0 i).tmps) = true ∧ ∀ w, C w → o.quietAt P (frameAt ops vals' a0 i) C w (vals' i)) ∨
      (Region.wanted o (yielded ops (frameAt ops vals' a0 i).tmps) = false ∧ vals' i = undef)) ∧ K (frameAt ops vals' a0 (k + m))
  | 0, k, a0, vals, _, h => ⟨vals, fun _ _ => rfl, fun i o h1 h2 => by omega, by simpa [wpQuiet] using h⟩
  | m + 1, k, a0, vals, hk, h => by
    have hkl : k < ops.toList.length := by simp; omega
    rw [List.drop_eq_getElem_cons hkl, List.take_succ_cons] at h
    have ho : ops[k]? = some ops.toList[k] := by simp
    simp only [wpQuiet] at h
    have hcong : ∀ (vals' : Nat → Value), (∀ i, i < k → vals' i = vals i) → frameAt ops vals' a0 k = frameAt ops vals a0 k := by
      intro vals' hv
      have : ∀ j, j ≤ k → frameAt ops vals' a0 j = frameAt ops vals a0 j := by
        intro j
        induction j with
        | zero => intro _; rfl
        | succ j ih => intro hj; simp only [frameAt]; rw [ih (by omega), hv j (by omega)]
      exact this k (Nat.le_refl _)
    -- what this one yields
    have one : ∃ v, ((Region.wanted ops.toList[k] (yielded ops (frameAt ops vals a0 k).tmps) = true ∧ ∀ w, C w → (ops.toList[k]).quietAt P (frameAt ops vals a0 k) C w v) ∨
        (Region.wanted ops.toList[k] (yielded ops (frameAt ops vals a0 k).tmps) = false ∧ v = undef)) ∧
        wpQuiet P ops C K ((ops.toList.drop (k + 1)).take m) ((frameAt ops vals a0 k).put (ops.toList[k]).dst v) := by
      split at h
      · rename_i hw
        obtain ⟨v, h1, h2⟩ := h
        exact ⟨v, Or.inl ⟨hw, h1⟩, h2⟩
      · rename_i hw
        exact ⟨undef, Or.inr ⟨by simpa using hw, rfl⟩, h⟩
    obtain ⟨v, hv, hrest⟩ := one
    let vals1 : Nat → Value := fun i => if i = k then v else vals i
    have h1 : frameAt ops vals1 a0 k = frameAt ops vals a0 k := hcong vals1 (fun i hi => by simp only [vals1]; rw [if_neg (by omega)])
    have h2 : frameAt ops vals1 a0 (k + 1) = (frameAt ops vals a0 k).put (ops.toList[k]).dst v := by
      simp only [frameAt, h1, ho, Option.bind_some, vals1, if_true]
    obtain ⟨vals', g1, g2, g3⟩ := quiet_vals m (k + 1) a0 vals1 (by omega) (by rw [h2]; exact hrest)
    have g4 : ∀ i, i < k → vals' i = vals i := fun i hi => by rw [g1 i (by omega)]; simp only [vals1]; rw [if_neg (by omega)]
    refine ⟨vals', g4, fun i o hi1 hi2 hoi => ?_, by rw [show k + (m + 1) = k + 1 + m by omega]; exact g3⟩
    by_cases e : i = k
    · subst e
      have : o = ops.toList[i] := Option.some.inj (hoi.symm.trans ho)
      subst this
      have hvi : vals' i = v := by rw [g1 i (by omega)]; simp only [vals1, if_true]
      rw [hcong vals' g4, hvi]
      exact hv
    · exact g2 i o (by omega) (by omega) hoi

/-- every temporary of the first n operations lies in the frame -/
def dstsB (ops : Array Oper) (n m : Nat) : Bool := (ops.toList.take n).all fun o => match o.dst with | some d => decide (d < m) | none => true

theorem dstsB_spec {m : Nat} (h : dstsB ops n m = true) : ∀ i o d, i < n → ops[i]? = some o → o.dst = some d → d < m := by
  intro i o d hi ho hd
  have h1 := List.all_eq_true.1 h o (by
    rw [List.mem_take_iff_getElem]
    have hlt : i < ops.size := (Array.getElem?_eq_some_iff.1 ho).1
    refine ⟨i, by simp; omega, ?_⟩
    have := (Array.getElem?_eq_some_iff.1 ho).2
    simpa using this)
  simpa [hd] using h1

theorem region_quiet {P : Program} {id : Nat} {Q : Exit → Act → World → Prop} {a : Act} {w : World} (n : Nat) (hm : P.follows .mixedOrders = true) (hB : (regB ops n && Region.noSelect ops) = true) (hN : dstsB ops n a.tmps.size = true)
    (C : World → Prop) (hC : C { w with drawn := w.drawn + 1 })
    (h : wpQuiet P ops C (fun a' => ∀ w', C w' → wpList P ops Q (ops.toList.drop n) a' w') (ops.toList.take n) a) : (Code.region id ops true).wp P Q a w := by
  rw [Bool.and_eq_true] at hB
  obtain ⟨hB, hsel⟩ := hB
  have hN' := dstsB_spec hN
  have hns : n ≤ ops.size := by
    simp only [regB, Bool.and_eq_true, decide_eq_true_eq] at hB
    exact hB.2
  obtain ⟨vals, _, g2, g3⟩ := quiet_vals (ops := ops) n 0 a (fun _ => undef) (by omega) (by simpa [frameAt] using h)
  rw [Nat.zero_add] at g3
  refine region_rel n hm hB hN' (fun _ => C) (fun i _ v => v = vals i) hC ?_ ?_
  · intro i o hi ho listed a' w' _ _ _ hCw hasn
    have heq : ∀ s ∈ o.looksAt ops, a'.tmps.getD s undef = (frameAt ops vals a i).tmps.getD s undef := fun s hs => asnAt_frame i (fun j o d hj => hN' j o d (by omega)) (hasn s hs)
    have hsel' := Region.noSelect_spec hsel
    have hexec : execOp a'.eval o = execOp (frameAt ops vals a i).eval o := execOp_congr o (fun cs b => hsel' i o cs b ho) (fun x hx => by
      cases x with
      | tmp t => exact heq t (List.mem_append_left _ (List.mem_filterMap.2 ⟨.tmp t, by simpa using hx, rfl⟩))
      | _ => rfl)
    have hwant : Region.wanted o (yielded ops a'.tmps) = Region.wanted o (yielded ops (frameAt ops vals a i).tmps) := by
      unfold Region.wanted
      cases hg : o.guard with
      | none => rfl
      | some gw =>
        obtain ⟨g, want⟩ := gw
        have : yielded ops a'.tmps g = yielded ops (frameAt ops vals a i).tmps g := by
          unfold yielded
          cases ht : (ops[g]?).bind (·.dst) with
          | none => rfl
          | some t =>
            have h1 := heq t (by simp [Oper.looksAt, hg, ht])
            simp only [Option.bind_some]
            simp only [Array.getD_eq_getD_getElem?] at h1
            cases hx : a'.tmps[t]? with
            | none =>
              cases hy : (frameAt ops vals a i).tmps[t]? with
              | none => rfl
              | some y =>
                rw [hx, hy] at h1
                simp only [Option.getD_none, Option.getD_some] at h1
                rw [← h1]; rfl
            | some x =>
              cases hy : (frameAt ops vals a i).tmps[t]? with
              | none =>
                rw [hx, hy] at h1
                simp only [Option.getD_none, Option.getD_some] at h1
                rw [h1]; rfl
              | some y =>
                rw [hx, hy] at h1
                simp only [Option.getD_some] at h1
                rw [h1]
        simp only [this]
    rw [hwant]
    rcases g2 i o (by omega) (by omega) ho with ⟨hw1, hq⟩ | ⟨hw1, hv⟩
    · rw [if_pos hw1]
      have hq' := hq w' hCw
      unfold Oper.quietAt at hq'
      unfold YieldsTo
      rw [hexec]
      generalize (execOp (frameAt ops vals a i).eval o).run P w' = r at *
      cases r with
      | halt x w'' => exact hq'.elim
      | ok nx w'' =>
        cases nx <;> simp only [Oper.quietUpon] at hq' ⊢
        case value u => obtain ⟨rfl, rfl⟩ := hq'; exact ⟨rfl, hCw, fun _ _ _ _ _ h => h⟩
        case skip => obtain ⟨rfl, hv⟩ := hq'; exact ⟨hv.symm, hCw, fun _ _ _ _ _ h => h⟩
        case enter f args =>
          obtain ⟨rfl, hc⟩ := hq'
          exact hc.mono fun e w3 ⟨he, hc3⟩ => ⟨_, he, rfl, hc3, fun _ _ _ _ _ h => h⟩
    · rw [if_neg (by rw [hw1]; exact Bool.false_ne_true)]
      exact ⟨hv.symm, hCw⟩
  · intro listed a' w' _ hCw hs hd hasn
    have : a' = frameAt ops vals a n := by
      have h1 := frameAt_size (ops := ops) (vals := vals) (a := a) n
      have h2 := frameAt_defers (ops := ops) (vals := vals) (a := a) n
      have h3 : a'.tmps = (frameAt ops vals a n).tmps := by
        apply Array.ext
        · omega
        · intro j hj1 hj2
          have := asnAt_frame (s := j) n hN' (hasn j)
          simpa [hj1, hj2] using this
      obtain ⟨t1, d1⟩ := a'
      generalize frameAt ops vals a n = fr at h2 h3
      obtain ⟨t3, d3⟩ := fr
      simp only at h2 h3 hd
      rw [h3, hd, h2]
    rw [this]
    exact g3 w' hCw

/-- the same at the class 'this world, but for draws', the operations written out -/
theorem region_drew {P : Program} {id : Nat} {l : List Oper} {Q : Exit → Act → World → Prop} {a : Act} {w : World} (n : Nat) (hm : P.follows .mixedOrders = true) (hB : (regB l.toArray n && Region.noSelect l.toArray) = true) (hN : dstsB l.toArray n a.tmps.size = true)
    (h : wpQuiet P l.toArray (fun w' => ∃ m, w' = w.drewN m) (fun a' => ∀ w', (∃ m, w' = w.drewN m) → wpList P l.toArray Q (l.drop n) a' w') (l.take n) a) : (Code.region id l.toArray true).wp P Q a w :=
  region_quiet n hm hB hN (fun w' => ∃ m, w' = w.drewN m) ⟨1, rfl⟩ (by simpa using h)

theorem qd_val {P : Program} {ops : Array Oper} {K : Act → Prop} {rest : List Oper} {o : Oper} {a : Act} {w : World} (hg : o.guard = none) {v : Value}
    (hrun : ∀ m, (execOp a.eval o).run P (w.drewN m) = .ok (.value v) (w.drewN m)) (h : wpQuiet P ops (fun w' => ∃ m, w' = w.drewN m) K rest (a.put o.dst v)) :
    wpQuiet P ops (fun w' => ∃ m, w' = w.drewN m) K (o :: rest) a :=
  wpQuiet_step fun K' hK => by
    rw [if_pos (by simp [Region.wanted, hg])]
    refine ⟨v, fun w' ⟨m, hm⟩ => ?_, hK _ h⟩
    unfold Oper.quietAt
    rw [hm, hrun m]
    exact ⟨rfl, rfl⟩

end
end Go.Proofs.Ytjcnhpnadfhjaaa
