/- The law of XGrowA for a region within a round of a range over a function. Printed out of XReg and XGrowA. No dump, no condition. -/
import Derived.Test.YtjcnhpnadfhjaaaGrowA
import Derived.RangeFuncNested
import Derived.RangeFuncBound
import Derived.RangeFuncCalls
import Derived.RangeFuncLeaves
import Derived.RangeFuncFrom
import Derived.OrdersIn
import Derived.TacticsIn
namespace Go.Proofs.Ytjcnhpnadfhjaaa
open Go.RowKit

def noDeferB (l : List Oper) : Bool := l.all fun o => match o.op with | .defer _ => false | _ => true

theorem noDeferB_spec {l : List Oper} (h : noDeferB l = true) {o : Oper} (ho : o ∈ l) : ∀ c, o.op ≠ .defer c := by
  intro c hc
  have := List.all_eq_true.1 h o ho
  simp [hc] at this

theorem rows_round {n l : Nat} {P : Program} {row : String} {args : Array Value} {w : World} {R : Value → World → Prop} (h : Rows P row args w R) : RowsIn (Fence.wide.inRound l) n P row args w R :=
  fun c cs _ => let ⟨v, w', r, s⟩ := h c cs; ⟨v, w', r, stepsIn_wide.2 s⟩

theorem wpOpIn_round {l n : Nat} {P : Program} {lo : List Oper} {Q : Exit → Act → World → Prop} (hnd : noDeferB lo = true) (hQ : ¬ LetsOut Q) {i : Nat} {K K' : Act → World → Prop} (hK : ∀ a w, K a w → K' a w) {a : Act} {w : World}
    (h : wpOp P lo.toArray Q i K a w) : wpOpIn (Fence.wide.inRound l) n P lo.toArray Q i K' a w := by
  unfold wpOp at h
  unfold wpOpIn
  cases ho : lo.toArray[i]? with
  | none => simp only [ho] at h ⊢; exact hK _ _ h
  | some o =>
    have hmem : o ∈ lo := by
      have := Array.mem_of_getElem? ho
      simpa using this
    simp only [ho] at h ⊢
    split
    · rename_i hw
      rw [if_pos hw] at h
      rcases h with h | ⟨_, h⟩
      · refine ⟨fun _ _ => trivial, ?_⟩
        unfold Oper.wp at h
        rw [show (Fence.wide.inRound l).round = some l from rfl, Oper.semAt_some l _ _ (noDeferB_spec hnd hmem)]
        generalize (execOp a.eval o).run P w = r at *
        cases r with
        | halt x w' =>
          cases x <;> simp only [Oper.upon, Oper.uponIn] at h ⊢ <;> first | exact h | exact h.elim
        | ok nx w' =>
          cases nx <;> simp only [Oper.upon, Oper.uponIn] at h ⊢
          case value v => exact hK _ _ h
          case skip => exact hK _ _ h
          case defer d => exact hK _ _ h
          case enter f args =>
            refine ⟨(fun hd => by cases hd), CallsIn.inRound l (callsIn_wide.2 (h.mono ?_))⟩
            intro e w''
            cases e <;> simp only <;> first | exact hK _ _ | exact id
          case row row args => exact ⟨(fun hd => by cases hd), rows_round (h.mono fun v w'' => hK _ _)⟩
      · exact absurd h hQ
    · rename_i hw
      rw [if_neg hw] at h
      exact ⟨fun _ _ => trivial, hK _ _ h⟩

theorem wpAnyIn_round {l n : Nat} {P : Program} {md : Region.Mode} {lo : List Oper} {Q : Exit → Act → World → Prop} (hnd : noDeferB lo = true) (hQ : ¬ LetsOut Q) :
    ∀ (fuel : Nat) (listed : Array Bool) (a : Act) (w : World), wpAny P md lo.toArray Q fuel listed a w → wpAnyIn (Fence.wide.inRound l) n P md lo.toArray Q fuel listed a w
  | 0, _, _, _, h => h
  | fuel + 1, _, _, _, h => ⟨h.1, fun i hi => wpOpIn_round hnd hQ (fun a w => wpAnyIn_round hnd hQ fuel _ a w) (h.2 i hi)⟩

theorem region_rel_any {ops : Array Oper} {P : Program} {Q : Exit → Act → World → Prop} {a : Act} {w : World} (n : Nat) (hB : regB ops n = true)
    (hN : ∀ i o d, i < n → ops[i]? = some o → o.dst = some d → d < a.tmps.size)
    (J : Array Bool → World → Prop) (A : Nat → Asn)
    (hJ : J (Array.replicate ops.size false) { w with drawn := w.drawn + 1 })
    (hop : ∀ i o, i < n → ops[i]? = some o → ∀ (listed : Array Bool) (a' : Act) (w' : World), closedL ops listed → (∀ k, waitsB ops i k = true → listed.getD k false = true) → listed.getD i false = false → J listed w' →
      (∀ s ∈ o.looksAt ops, asnAt ops (fun s _ v => v = a.tmps.getD s undef) A i s w' (a'.tmps.getD s undef)) →
      if Region.wanted o (yielded ops a'.tmps) then YieldsTo P o a' w' (fun v w'' => A i w'' v ∧ J (listed.setIfInBounds i true) w'' ∧ ∀ k, k < n → k ≠ i → listed.getD k false = true → ∀ v, A k w' v → A k w'' v) else A i w' undef ∧ J (listed.setIfInBounds i true) w')
    (hend : ∀ (listed : Array Bool) (a' : Act) (w' : World), (∀ k, k < n → listed.getD k false = true) → J listed w' → a'.tmps.size = a.tmps.size → a'.defers = a.defers →
      (∀ s, asnAt ops (fun s _ v => v = a.tmps.getD s undef) A n s w' (a'.tmps.getD s undef)) → wpList P ops Q (ops.toList.drop n) a' w') :
    wpAny P .any ops Q ops.size (Array.replicate ops.size false) a { w with drawn := w.drawn + 1 } := by
  simp only [regB, Bool.and_eq_true, List.all_eq_true, List.mem_range, Bool.or_eq_true, Bool.not_eq_true', List.any_eq_true, decide_eq_true_eq] at hB
  obtain ⟨⟨⟨⟨hsep, hsink⟩, hchain⟩, hback⟩, hn⟩ := hB
  have hbk : ∀ j i, waitsB ops j i = true → i < j := fun j i h => by
    obtain ⟨o, ho, e, he, hb, rfl⟩ := waitsB_spec h
    have h1 := hback j (Array.getElem?_eq_some_iff.1 ho).1
    rw [ho] at h1
    have h2 := (Array.all_eq_true_iff_forall_mem.1 h1) e he
    simpa [hb] using h2
  let F0 : Nat → Asn := fun s _ v => v = a.tmps.getD s undef
  -- the two phases
  let I1 : Array Bool → Act → World → Prop := fun listed a' w' =>
    (∀ t, n ≤ t → listed.getD t false = false) ∧ J listed w' ∧ a'.tmps.size = a.tmps.size ∧ a'.defers = a.defers ∧ ∀ s, asnOf ops F0 A listed n s w' (a'.tmps.getD s undef)
  let I2 : Array Bool → Act → World → Prop := fun listed a' w' =>
    ∃ t, n ≤ t ∧ t ≤ ops.size ∧ (∀ k, k < t → listed.getD k false = true) ∧ (∀ k, t ≤ k → listed.getD k false = false) ∧ wpList P ops Q (ops.toList.drop t) a' w'
  let I : Array Bool → Act → World → Prop := fun listed a' w' => listed.size = ops.size ∧ closedL ops listed ∧ (I1 listed a' w' ∨ I2 listed a' w')
  have hlist : ∀ (listed : Array Bool) i o, listed.size = ops.size → closedL ops listed → i ∈ Region.ready .any ops listed → ops[i]? = some o →
      (listed.setIfInBounds i true).size = ops.size ∧ closedL ops (listed.setIfInBounds i true) ∧ (∀ k, waitsB ops i k = true → listed.getD k false = true) := by
    intro listed i o hs hc hi ho
    obtain ⟨hun, o', ho', hall⟩ := mem_ready.1 hi
    have hw : ∀ k, waitsB ops i k = true → listed.getD k false = true := fun k hk => by
      obtain ⟨o2, ho2, e, he, hb, hon⟩ := waitsB_spec hk
      have : o2 = o' := Option.some.inj (ho2.symm.trans ho')
      subst this
      rw [← hon]; exact hall e he hb
    refine ⟨by simpa using hs, ?_, hw⟩
    intro j k hjk hj
    rw [getD_setT] at hj ⊢
    split
    · rfl
    · split at hj
      · rename_i h1; rw [← h1.1] at hjk; exact hw k hjk
      · exact hc j k hjk hj
  -- from the whole of the first n to the tail
  have to2 : ∀ listed a' w', (∀ k, k < n → listed.getD k false = true) → I1 listed a' w' → I2 listed a' w' := by
    intro listed a' w' hall ⟨h1, h2, h3, h4, h5⟩
    refine ⟨n, Nat.le_refl _, hn, hall, h1, hend listed a' w' hall h2 h3 h4 (fun s => ?_)⟩
    have := h5 s
    rwa [asnOf_full n (fun j hj _ => hall j hj)] at this
  -- one operation
  have hstep : ∀ listed a' w', I listed a' w' → ∀ i, i ∈ Region.ready .any ops listed → wpOp P ops Q i (I (listed.setIfInBounds i true)) a' w' := by
    intro listed a' w' ⟨hs, hc, hI⟩ i hi
    obtain ⟨hun, o, ho, hall⟩ := mem_ready.1 hi
    obtain ⟨hs', hc', hw⟩ := hlist listed i o hs hc hi ho
    have hilt : i < ops.size := (Array.getElem?_eq_some_iff.1 ho).1
    have hunf := getD_ff hun
    -- phase one or two
    have key : (i < n ∧ I1 listed a' w') ∨ I2 listed a' w' := by
      rcases hI with h1 | h2
      · by_cases hin : i < n
        · exact Or.inl ⟨hin, h1⟩
        · right
          refine to2 _ _ _ (fun k hk => ?_) h1
          -- all before n are done
          have hi_n : i = n := by
            by_cases e : i = n
            · exact e
            · have h3 := hchain i hilt
              rcases h3 with h3 | h3
              · omega
              · have h4 := hw _ h3
                rw [h1.1 (i - 1) (by omega)] at h4; cases h4
          subst hi_n
          have hall2 : ∀ d k, i - k = d → k < i → listed.getD k false = true := by
            intro d
            induction d using Nat.strongRecOn with
            | _ d ih =>
              intro k hd hk
              rcases hsink k hk with h3 | ⟨j, hj, hj2⟩
              · omega
              · by_cases e : j = i
                · subst e; exact hw k hj2.2
                · exact hc j k hj2.2 (ih (i - j) (by omega) j rfl (by omega))
          exact hall2 _ k rfl hk
      · exact Or.inr h2
    unfold wpOp
    simp only [ho]
    rcases key with ⟨hin, h1, h2, h3, h4, h5⟩ | ⟨t, ht1, ht2, ht3, ht4, ht5⟩
    · -- an operation of the first n
      have hasn : ∀ s ∈ o.looksAt ops, asnAt ops F0 A i s w' (a'.tmps.getD s undef) := by
        intro s hsl
        have h6 := h5 s
        have e1 : asnOf ops F0 A listed n s = asnOf ops F0 A listed i s := asnOf_later n (by omega) (fun j h7 h8 hd => by
          cases hlj : listed.getD j false with
          | false => rfl
          | true =>
            by_cases e : j = i
            · subst e; rw [hunf] at hlj; cases hlj
            · have h9 := hsep j h8 i (by omega)
              cases hoj : ops[j]? with
              | none => simp [hoj] at hd
              | some oj =>
                simp only [hoj, Option.bind_some] at hd
                have hcl : clashB ops i j = true := by
                  unfold clashB
                  simp only [ho, hoj, hd]
                  simp [hsl]
                rw [hcl] at h9
                rcases h9 with h9 | h9
                · cases h9
                · have := hc j i h9 hlj
                  rw [hunf] at this; cases this)
        have e2 : asnOf ops F0 A listed i s = asnAt ops F0 A i s := asnOf_full i (fun j h7 hd => by
          have h9 := hsep i hin j h7
          cases hoj : ops[j]? with
          | none => simp [hoj] at hd
          | some oj =>
            simp only [hoj, Option.bind_some] at hd
            have hcl : clashB ops j i = true := by
              unfold clashB
              simp only [ho, hoj, hd]
              simp [hsl]
            rw [hcl] at h9
            rcases h9 with h9 | h9
            · cases h9
            · exact hw j h9)
        rw [e1, e2] at h6
        exact h6
      have hmain := hop i o hin ho listed a' w' hc hw hunf h2 hasn
      -- behind it
      have hnext : ∀ v w'', A i w'' v → J (listed.setIfInBounds i true) w'' → (∀ k, k < n → k ≠ i → listed.getD k false = true → ∀ v, A k w' v → A k w'' v) → I (listed.setIfInBounds i true) (a'.put o.dst v) w'' := by
        intro v w'' hv hJ' hk
        refine ⟨hs', hc', Or.inl ⟨fun t ht => ?_, hJ', ?_, ?_, fun s => ?_⟩⟩
        · rw [getD_setT, if_neg (by omega)]; exact h1 t ht
        · cases hd : o.dst with
          | none => simp [Act.put, h3]
          | some d => simp [Act.put, h3]
        · cases hd : o.dst with
          | none => simp [Act.put, h4]
          | some d => simp [Act.put, h4]
        · have hcarry : asnOf ops F0 A listed n s w'' (a'.tmps.getD s undef) := by
            refine asnOf_mono (w := w') (w' := w'') (fun _ h => h) n (fun k hk1 hk2 => hk k hk1 (fun e => ?_) hk2) (h5 s)
            subst e; rw [hunf] at hk2; cases hk2
          by_cases hds : o.dst = some s
          · -- its own temporary
            have hsz := hN i o s hin ho hds
            have hget : (a'.put o.dst v).tmps.getD s undef = v := by
              rw [hds]; simp [Act.put, h3, hsz]
            rw [hget]
            have e1 : asnOf ops F0 A (listed.setIfInBounds i true) n s = asnOf ops F0 A (listed.setIfInBounds i true) (i + 1) s := asnOf_later n (by omega) (fun j h7 h8 hd => by
              rw [getD_setT, if_neg (by omega)]
              cases hlj : listed.getD j false with
              | false => rfl
              | true =>
                have h9 := hsep j h8 i (by omega)
                cases hoj : ops[j]? with
                | none => simp [hoj] at hd
                | some oj =>
                  simp only [hoj, Option.bind_some] at hd
                  have hcl : clashB ops i j = true := by
                    unfold clashB
                    simp only [ho, hoj, hd, hds]
                    simp
                  rw [hcl] at h9
                  rcases h9 with h9 | h9
                  · cases h9
                  · have := hc j i h9 hlj
                    rw [hunf] at this; cases this)
            rw [e1]
            simp only [asnOf]
            rw [if_pos ⟨by rw [getD_setT, if_pos ⟨rfl, by omega⟩], by rw [ho]; exact hds⟩]
            exact hv
          · have hget : (a'.put o.dst v).tmps.getD s undef = a'.tmps.getD s undef := by
              cases hd : o.dst with
              | none => rfl
              | some d =>
                have hne : d ≠ s := fun e => hds (by rw [hd, e])
                simp [Act.put, Array.getElem?_setIfInBounds_ne hne]
            rw [hget]
            have e1 : asnOf ops F0 A (listed.setIfInBounds i true) n s = asnOf ops F0 A listed n s := asnOf_congr n (fun j h7 hd => by
              rw [getD_setT, if_neg]
              rintro ⟨rfl, _⟩
              rw [ho] at hd; exact hds hd)
            rw [e1]; exact hcarry
      split
      · rename_i hwt
        rw [if_pos hwt] at hmain
        exact Or.inl (hmain.wp fun v w'' ⟨hv, hJ', hk⟩ => hnext v w'' hv hJ' hk)
      · rename_i hwt
        rw [if_neg hwt] at hmain
        exact hnext undef w' hmain.1 hmain.2 (fun _ _ _ _ _ h => h)
    · -- the tail
      have hit : i = t := by
        have h6 : t ≤ i := by
          rcases Nat.lt_or_ge i t with h | h
          · have := ht3 i h; rw [hunf] at this; cases this
          · exact h
        by_cases e : i = t
        · exact e
        · rcases hchain i hilt with h7 | h7
          · omega
          · have := hw _ h7
            rw [ht4 (i - 1) (by omega)] at this; cases this
      subst hit
      have hdrop : ops.toList.drop i = o :: ops.toList.drop (i + 1) := by
        rw [List.drop_eq_getElem_cons (by simpa using hilt)]
        congr 1
        have := (Array.getElem?_eq_some_iff.1 ho).2
        simpa using this
      rw [hdrop] at ht5
      have hnext : ∀ a'' w'', wpList P ops Q (ops.toList.drop (i + 1)) a'' w'' → I (listed.setIfInBounds i true) a'' w'' := by
        intro a'' w'' h
        refine ⟨hs', hc', Or.inr ⟨i + 1, by omega, by omega, fun k hk => ?_, fun k hk => ?_, h⟩⟩
        · rw [getD_setT]
          split
          · rfl
          · rename_i h6
            exact ht3 k (by
              by_cases e : i = k
              · exact absurd ⟨e, by omega⟩ h6
              · omega)
        · rw [getD_setT, if_neg (by omega)]; exact ht4 k (by omega)
      unfold wpList at ht5
      split
      · rename_i hwt
        rw [if_pos hwt] at ht5
        rcases ht5 with h | h
        · exact Or.inl (Oper.wp_mono (fun a w h => hnext a w h) h)
        · exact Or.inr h
      · rename_i hwt
        rw [if_neg hwt] at ht5
        exact hnext _ _ ht5
  -- nothing is left
  have hdone : ∀ listed a' w', I listed a' w' → Region.ready .any ops listed = [] → Q .normal a' w' := by
    intro listed a' w' ⟨hs, hc, hI⟩ hr
    have hallD : ∀ k, k < ops.size → listed.getD k false = true := by
      intro k
      induction k using Nat.strongRecOn with
      | _ k ih =>
        intro hk
        cases hl : listed.getD k false with
        | true => rfl
        | false =>
          have hmem : k ∈ Region.ready .any ops listed := by
            refine mem_ready.2 ⟨by simpa [hs, hk] using hl, ops[k], by simp [hk], fun e he hb => ?_⟩
            have hwk : waitsB ops k e.on = true := by
              unfold waitsB
              simp only [Array.getElem?_eq_getElem hk]
              exact Array.any_eq_true'.2 ⟨e, he, by simp [hb]⟩
            have := hbk k e.on hwk
            exact ih e.on this (by omega)
          rw [hr] at hmem; cases hmem
    have h2 : I2 listed a' w' := by
      rcases hI with h1 | h2
      · exact to2 _ _ _ (fun k hk => hallD k (by omega)) h1
      · exact h2
    obtain ⟨t, ht1, ht2, ht3, ht4, ht5⟩ := h2
    have : t = ops.size := by
      rcases Nat.lt_or_ge t ops.size with h | h
      · have := hallD t h; rw [ht4 t (Nat.le_refl _)] at this; cases this
      · omega
    subst this
    rw [List.drop_of_length_le (by simp)] at ht5
    exact ht5
  -- the walk
  have hwalk : ∀ fuel (listed : Array Bool) a' w', ((List.range ops.size).filter fun i => !listed.getD i true).length ≤ fuel → I listed a' w' → wpAny P .any ops Q fuel listed a' w' := by
    intro fuel
    induction fuel with
    | zero =>
      intro listed a' w' hf hI
      have hr : Region.ready .any ops listed = [] := by
        rw [List.eq_nil_iff_forall_not_mem]
        intro i hi
        have hm' : i ∈ (List.range ops.size).filter fun i => !listed.getD i true := by
          obtain ⟨hun, o, ho, _⟩ := mem_ready.1 hi
          exact List.mem_filter.2 ⟨List.mem_range.2 (Array.getElem?_eq_some_iff.1 ho).1, by rw [hun]; rfl⟩
        have := List.length_pos_of_mem hm'
        omega
      exact ⟨hr, hdone _ _ _ hI hr⟩
    | succ fuel ih =>
      intro listed a' w' hf hI
      refine ⟨hdone _ _ _ hI, fun i hi => ?_⟩
      refine wpOp_mono (fun a'' w'' h => ih _ a'' w'' ?_ h) (hstep _ _ _ hI i hi)
      obtain ⟨hun, o, ho, _⟩ := mem_ready.1 hi
      have hilt : i < ops.size := (Array.getElem?_eq_some_iff.1 ho).1
      have hm' : i ∈ (List.range ops.size).filter fun i => !listed.getD i true := List.mem_filter.2 ⟨List.mem_range.2 hilt, by rw [hun]; rfl⟩
      have hsub : ((List.range ops.size).filter fun j => !(listed.setIfInBounds i true).getD j true).length < ((List.range ops.size).filter fun j => !listed.getD j true).length := by
        have h1 : ((List.range ops.size).filter fun j => !(listed.setIfInBounds i true).getD j true) = ((List.range ops.size).filter fun j => !listed.getD j true).filter (fun j => j != i) := by
          rw [List.filter_filter]
          apply List.filter_congr
          intro j _
          rw [getD_setT]
          by_cases e : i = j
          · subst e
            by_cases hl : i < listed.size
            · simp [hl]
            · simp [hl]
          · have e' : (j != i) = true := by simp; omega
            simp [e, e']
        rw [h1]
        exact List.length_filter_lt_length_iff_exists.2 ⟨i, hm', by simp⟩
      omega
  refine hwalk ops.size _ a _ ?_ ⟨by simp, fun j i h hj => ?_, Or.inl ⟨fun t _ => ?_, hJ, rfl, rfl, fun s => ?_⟩⟩
  · exact Nat.le_trans (List.length_filter_le _ _) (by simp)
  · exfalso
    rw [getD_replicate_false'] at hj; cases hj
  · exact getD_replicate_false' _ _
  · have : ∀ k, asnOf ops F0 A (Array.replicate ops.size false) k s = F0 s := by
      intro k
      induction k with
      | zero => rfl
      | succ k ih =>
        simp only [asnOf]
        rw [if_neg (fun h => by rw [getD_replicate_false'] at h; cases h.1), ih]
    rw [this]

/-! ### Where the values do not hang on the world: one walk, in the text's order -/

section
variable {P : Program}

theorem region_app_in {lp m0 id : Nat} {l : List Oper} {Q : Exit → Act → World → Prop} {a : Act} {w : World} (n : Nat) (hm : P.follows .mixedOrders = true) (hnd : noDeferB l = true) (hQ : ¬ LetsOut Q) (hB : (regB l.toArray n && Region.noSelect l.toArray && apartB l.toArray n) = true) (hN : dstsB l.toArray n a.tmps.size = true)
    (sps : List Sq) (hl : sps.length = n) (hg : gAll l.toArray w.heap.size sps 0 sps)
    (h : wpSq P l.toArray w (fun F a' => ∀ w', Own w w' [] → F w' (fun _ => True) → wpList P l.toArray Q (l.drop n) a' w') sps l (fun _ _ => True) a) : (Code.region id l.toArray true).wpIn (Fence.wide.inRound lp) m0 P Q a w := by
  simp only [Bool.and_eq_true] at hB
  obtain ⟨⟨hB, hsel⟩, hap⟩ := hB
  have hN' := dstsB_spec hN
  have h' : wpSq P l.toArray w (fun F a' => ∀ w', Own w w' [] → F w' (fun _ => True) → wpList P l.toArray Q (l.drop n) a' w') sps (l.toArray.toList.drop 0) (fun _ _ => True) (frameAt l.toArray (fun _ => undef) a 0) := by simpa [frameAt] using h
  have hat : ∀ (vals : Nat → Value), (∀ j v, sps[j]? = some (.val v) → vals j = v) → ∀ i, i ≤ n → _ := fun vals hv i hi =>
    wpSq_at (P := P) (ops := l.toArray) (w := w) (a := a) vals i sps 0 (fun _ _ => True) (fun j v hj => by rw [Nat.zero_add]; exact hv j v hj) h' (by omega)
  -- the values that go with a frame
  let A : Nat → Asn := fun i => match sps[i]? with | some s => s.asn | none => fun _ _ => True
  let vof : Act → Nat → Value := fun a' j => match sps[j]? with | some (.val v) => v | _ => match (l.toArray[j]?).bind (·.dst) with | some d => a'.tmps.getD d undef | none => undef
  have hvof : ∀ a' j v, sps[j]? = some (.val v) → vof a' j = v := fun a' j v hj => by simp only [vof, hj]
  have hfr : ∀ (a' : Act) (w' : World) (i s : Nat), i ≤ n → asnAt l.toArray (fun s _ v => v = a.tmps.getD s undef) A i s w' (a'.tmps.getD s undef) → a'.tmps.getD s undef = (frameAt l.toArray (vof a') a i).tmps.getD s undef := by
    intro a' w' i s hi hasn
    refine asnAt_frame' i (fun j o d hj => hN' j o d (by omega)) (fun j hj hd hA => ?_) hasn
    have hjs : j < sps.length := by omega
    simp only [A, List.getElem?_eq_getElem hjs] at hA
    simp only [vof, List.getElem?_eq_getElem hjs, hd]
    cases hs : sps[j] with
    | val v => rw [hs] at hA; exact hA
    | rel A0 => rfl
    | app m0 A0 => rfl
    | mrk A0 => rfl
  have hF : ∀ (a' : Act) (w' : World) (i : Nat) (S : Nat → Prop), i ≤ n → (∀ s, S s → asnAt l.toArray (fun s _ v => v = a.tmps.getD s undef) A i s w' (a'.tmps.getD s undef)) →
      ∀ j s d, j < i → sps[j]? = some s → l.toArray[0 + j]?.bind (·.dst) = some d → S d → s.asn w' (vof a' (0 + j)) := by
    intro a' w' i S hi hS j s d hj hs hd hSd
    rw [Nat.zero_add] at hd ⊢
    have h1 := asnAt_of (A := A) hap hd i hi hj (hS d hSd)
    simp only [A, hs] at h1
    cases s with
    | val v => simp only [vof, hs]; rfl
    | rel A0 => simp only [vof, hs, hd]; exact h1
    | app m0 A0 => simp only [vof, hs, hd]; exact h1
    | mrk A0 => simp only [vof, hs, hd]; exact h1
  have hmono : ∀ k, k < n → Mono (A k) := by
    intro k hk
    have hks : k < sps.length := by omega
    obtain ⟨F', _, f2⟩ := hat (vof a) (hvof a) k (by omega)
    simp only [A, List.getElem?_eq_getElem hks]
    rw [List.drop_eq_getElem_cons hks] at f2
    cases hs : sps[k] with
    | val v => exact Sq.mono_val v
    | rel A0 =>
      rw [hs] at f2
      cases hd : l.toArray.toList.drop (0 + k) with
      | nil => rw [hd] at f2; exact f2.elim
      | cons o rest => rw [hd] at f2; exact f2.1
    | app m0 A0 =>
      rw [hs] at f2
      cases hd : l.toArray.toList.drop (0 + k) with
      | nil => rw [hd] at f2; exact f2.elim
      | cons o rest => rw [hd] at f2; exact f2.1
    | mrk A0 =>
      rw [hs] at f2
      cases hd : l.toArray.toList.drop (0 + k) with
      | nil => rw [hd] at f2; exact f2.elim
      | cons o rest => rw [hd] at f2; exact f2.1
  refine wpIn_region_any hm (wpAnyIn_round hnd hQ _ _ _ _ (region_rel_any n hB hN' (fun _ w' => Own w w' []) A ((Own.refl w).drew) ?_ ?_))
  · intro i o hi ho listed a' w' hcl _ hnl hJ hasn
    have his : i < sps.length := by omega
    have hio : i < l.toArray.toList.length := by have := (Array.getElem?_eq_some_iff.1 ho).1; simpa using this
    have heq : ∀ s ∈ o.looksAt l.toArray, a'.tmps.getD s undef = (frameAt l.toArray (vof a') a i).tmps.getD s undef := fun s hs => hfr a' w' i s (by omega) (hasn s hs)
    obtain ⟨F', f1, f2⟩ := hat (vof a') (hvof a') i (by omega)
    have hFw := f1 w' (fun s => s ∈ o.looksAt l.toArray) trivial (hF a' w' i _ (by omega) hasn)
    have hsel' := Region.noSelect_spec hsel
    have hexec : execOp a'.eval o = execOp (frameAt l.toArray (vof a') a i).eval o := execOp_congr o (fun cs b => hsel' i o cs b ho) (fun x hx => by
      cases x with
      | tmp t => exact heq t (List.mem_append_left _ (List.mem_filterMap.2 ⟨.tmp t, by simpa using hx, rfl⟩))
      | _ => rfl)
    rw [wanted_congr heq]
    rw [Nat.zero_add, List.drop_eq_getElem_cons his, List.drop_eq_getElem_cons hio] at f2
    have hoe : l.toArray.toList[i] = o := by
      have := (Array.getElem?_eq_some_iff.1 ho).2
      simpa using this
    rw [hoe] at f2
    obtain ⟨d, hd⟩ := apartB_some hap hi
    have hod : o.dst = some d := by simpa [ho] using hd
    have hdlt : d < (frameAt l.toArray (vof a') a i).tmps.size := by rw [frameAt_size]; exact hN' i o d hi ho hod
    simp only [A, List.getElem?_eq_getElem his]
    cases hs : sps[i] with
    | val v =>
      rw [hs] at f2
      obtain ⟨f2, _⟩ := f2
      have hq := f2 w' hJ hFw
      split at hq
      · rename_i hw
        rw [if_pos hw]
        unfold YieldsTo at hq ⊢
        rw [hexec]
        generalize (execOp (frameAt l.toArray (vof a') a i).eval o).run P w' = r at *
        cases r with
        | halt x w'' => exact hq.elim
        | ok nx w'' =>
          cases nx <;> simp only at hq ⊢
          case value x => exact ⟨hq.1, hJ.trans hq.2, fun k hk _ _ v h => hmono k hk _ _ _ hq.2 h⟩
          case skip => exact ⟨hq.1, hJ.trans hq.2, fun k hk _ _ v h => hmono k hk _ _ _ hq.2 h⟩
          case enter f args => exact hq.mono fun e w3 ⟨u, he, h1, h2⟩ => ⟨u, he, h1, hJ.trans h2, fun k hk _ _ v h => hmono k hk _ _ _ h2 h⟩
      · rename_i hw
        rw [if_neg hw]
        exact ⟨hq, hJ⟩
    | rel A0 =>
      rw [hs] at f2
      obtain ⟨_, hw, f3, _⟩ := f2
      rw [if_pos hw]
      have hy := f3 w' hJ hFw
      unfold YieldsTo at hy ⊢
      rw [hexec]
      generalize (execOp (frameAt l.toArray (vof a') a i).eval o).run P w' = r at *
      cases r with
      | halt x w'' => exact hy.elim
      | ok nx w'' =>
        cases nx <;> simp only at hy ⊢
        case value x => exact ⟨hy.2, hJ.trans hy.1, fun k hk _ _ v h => hmono k hk _ _ _ hy.1 h⟩
        case skip => exact ⟨hy.2, hJ.trans hy.1, fun k hk _ _ v h => hmono k hk _ _ _ hy.1 h⟩
        case enter f args => exact hy.mono fun e w3 ⟨v, he, h1, h2⟩ => ⟨v, he, h2, hJ.trans h1, fun k hk _ _ v h => hmono k hk _ _ _ h1 h⟩
    | app m0 A0 =>
      rw [hs] at f2
      obtain ⟨_, hw, f3, _⟩ := f2
      rw [if_pos hw]
      have hy := f3 w' hJ hFw
      have hpres : ∀ w'', Gr w.heap.size m0 w' w'' → ∀ k, k < n → k ≠ i → listed.getD k false = true → ∀ v, A k w' v → A k w'' v := by
        intro w'' hgr k hk hki hlk v hv
        have hks : k < sps.length := by omega
        have hrow := gAll_at sps 0 hg i m0 A0 (by rw [List.getElem?_eq_getElem his, hs])
        rw [Nat.zero_add] at hrow
        have h3 := gRow_at sps 0 hrow k sps[k] (List.getElem?_eq_getElem hks)
        rw [Nat.zero_add] at h3
        simp only [A, List.getElem?_eq_getElem hks] at hv ⊢
        rcases h3 with h3 | h3 | h3
        · exact absurd h3 hki
        · have := hcl k i h3 hlk
          rw [hnl] at this
          cases this
        · cases hsk : sps[k] with
          | val v0 => rw [hsk] at hv; exact hv
          | rel A1 => rw [hsk] at hv h3; exact h3 w' w'' v hgr hv
          | app m1 A1 => rw [hsk] at hv h3; exact h3 w' w'' v hgr hv
          | mrk A1 => rw [hsk] at hv h3; exact h3 w' w'' v hgr hv
      unfold YieldsTo at hy ⊢
      rw [hexec]
      generalize (execOp (frameAt l.toArray (vof a') a i).eval o).run P w' = r at *
      cases r with
      | halt x w'' => exact hy.elim
      | ok nx w'' =>
        cases nx <;> simp only at hy ⊢
        case value x => exact ⟨hy.2, hy.1.own hJ, hpres _ hy.1⟩
        case skip => exact ⟨hy.2, hy.1.own hJ, hpres _ hy.1⟩
        case enter f args => exact hy.mono fun e w3 ⟨v, he, h1, h2⟩ => ⟨v, he, h2, h1.own hJ, hpres _ h1⟩
    | mrk A0 =>
      rw [hs] at f2
      obtain ⟨_, hw, f3, _⟩ := f2
      rw [if_pos hw]
      have hy := f3 w' hJ hFw
      have hpres : ∀ w'', Mk w.heap.size w' w'' → ∀ k, k < n → k ≠ i → listed.getD k false = true → ∀ v, A k w' v → A k w'' v := by
        intro w'' hgr k hk hki hlk v hv
        have hks : k < sps.length := by omega
        have hrow := gAll_atM sps 0 hg i A0 (by rw [List.getElem?_eq_getElem his, hs])
        rw [Nat.zero_add] at hrow
        have h3 := mRow_at sps 0 hrow k sps[k] (List.getElem?_eq_getElem hks)
        rw [Nat.zero_add] at h3
        simp only [A, List.getElem?_eq_getElem hks] at hv ⊢
        rcases h3 with h3 | h3 | h3
        · exact absurd h3 hki
        · have := hcl k i h3 hlk
          rw [hnl] at this
          cases this
        · cases hsk : sps[k] with
          | val v0 => rw [hsk] at hv; exact hv
          | rel A1 => rw [hsk] at hv h3; exact h3 w' w'' v hgr hv
          | app m1 A1 => rw [hsk] at hv h3; exact h3 w' w'' v hgr hv
          | mrk A1 => rw [hsk] at hv h3; exact h3 w' w'' v hgr hv
      unfold YieldsTo at hy ⊢
      rw [hexec]
      generalize (execOp (frameAt l.toArray (vof a') a i).eval o).run P w' = r at *
      cases r with
      | halt x w'' => exact hy.elim
      | ok nx w'' =>
        cases nx <;> simp only at hy ⊢
        case value x => exact ⟨hy.2, hy.1.own hJ, hpres _ hy.1⟩
        case skip => exact ⟨hy.2, hy.1.own hJ, hpres _ hy.1⟩
        case enter f args => exact hy.mono fun e w3 ⟨v, he, h1, h2⟩ => ⟨v, he, h2, h1.own hJ, hpres _ h1⟩
  · intro listed a' w' _ hJ hs hd hasn
    have : a' = frameAt l.toArray (vof a') a n := by
      have h1 := frameAt_size (ops := l.toArray) (vals := vof a') (a := a) n
      have h2 := frameAt_defers (ops := l.toArray) (vals := vof a') (a := a) n
      have h3 : a'.tmps = (frameAt l.toArray (vof a') a n).tmps := by
        apply Array.ext
        · omega
        · intro j hj1 hj2
          have := hfr a' w' n j (Nat.le_refl _) (hasn j)
          simpa [hj1, hj2] using this
      generalize frameAt l.toArray (vof a') a n = fr at h2 h3
      obtain ⟨t1, d1⟩ := a'
      obtain ⟨t3, d3⟩ := fr
      simp only at h2 h3 hd
      rw [h3, hd, h2]
    obtain ⟨F', f1, f2⟩ := hat (vof a') (hvof a') n (Nat.le_refl _)
    have hFw := f1 w' (fun _ => True) trivial (hF a' w' n _ (Nat.le_refl _) (fun s _ => hasn s))
    have hd0 : sps.drop n = [] := List.drop_of_length_le (by omega)
    rw [hd0] at f2
    simp only [wpSq] at f2
    rw [Nat.zero_add, ← this] at f2
    simpa using f2 w' hJ hFw

end
end Go.Proofs.Ytjcnhpnadfhjaaa
