/- The law of regions that draw their order, with an invariant that knows the frame. No dump, no condition. -/
import Derived.Test.YtfihlmnbonnekaaEff
namespace Go.Proofs.Ytfihlmnbonnekaa
open Go.RowKit

section
variable {ops : Array Oper} {n : Nat}
theorem region_relF {P : Program} {id : Nat} {Q : Exit → Act → World → Prop} {a : Act} {w : World} (n : Nat) (hm : P.follows .mixedOrders = true) (hB : regB ops n = true)
    (hN : ∀ i o d, i < n → ops[i]? = some o → o.dst = some d → d < a.tmps.size)
    (J : Array Bool → Act → World → Prop) (A : Nat → Asn)
    (hJ : J (Array.replicate ops.size false) a { w with drawn := w.drawn + 1 })
    (hop : ∀ i o, i < n → ops[i]? = some o → ∀ (listed : Array Bool) (a' : Act) (w' : World), closedL ops listed → (∀ k, waitsB ops i k = true → listed.getD k false = true) → listed.getD i false = false → J listed a' w' →
      (∀ s ∈ o.looksAt ops, asnAt ops (fun s _ v => v = a.tmps.getD s undef) A i s w' (a'.tmps.getD s undef)) →
      if Region.wanted o (yielded ops a'.tmps) then YieldsTo P o a' w' (fun v w'' => A i w'' v ∧ J (listed.setIfInBounds i true) (a'.put o.dst v) w'' ∧ ∀ k, k < n → k ≠ i → listed.getD k false = true → ∀ v, A k w' v → A k w'' v) else A i w' undef ∧ J (listed.setIfInBounds i true) (a'.put o.dst undef) w')
    (hend : ∀ (listed : Array Bool) (a' : Act) (w' : World), (∀ k, k < n → listed.getD k false = true) → J listed a' w' → a'.tmps.size = a.tmps.size → a'.defers = a.defers →
      (∀ s, asnAt ops (fun s _ v => v = a.tmps.getD s undef) A n s w' (a'.tmps.getD s undef)) → wpList P ops Q (ops.toList.drop n) a' w') :
    (Code.region id ops true).wp P Q a w := by
  simp only [regB, Bool.and_eq_true, List.all_eq_true, List.mem_range, Bool.or_eq_true, Bool.not_eq_true', List.any_eq_true, decide_eq_true_eq] at hB
  obtain ⟨⟨⟨⟨hsep, hsink⟩, hchain⟩, hback⟩, hn⟩ := hB
  have hbk : ∀ j i, waitsB ops j i = true → i < j := fun j i h => by
    obtain ⟨o, ho, e, he, hb, rfl⟩ := waitsB_spec h
    have h1 := hback j (Array.getElem?_eq_some_iff.1 ho).1
    rw [ho] at h1
    have h2 := (Array.all_eq_true_iff_forall_mem.1 h1) e he
    simpa [hb] using h2
  let F0 : Nat → Asn := fun s _ v => v = a.tmps.getD s undef
  -- the two phases
  let I1 : Array Bool → Act → World → Prop := fun listed a' w' =>
    (∀ t, n ≤ t → listed.getD t false = false) ∧ J listed a' w' ∧ a'.tmps.size = a.tmps.size ∧ a'.defers = a.defers ∧ ∀ s, asnOf ops F0 A listed n s w' (a'.tmps.getD s undef)
  let I2 : Array Bool → Act → World → Prop := fun listed a' w' =>
    ∃ t, n ≤ t ∧ t ≤ ops.size ∧ (∀ k, k < t → listed.getD k false = true) ∧ (∀ k, t ≤ k → listed.getD k false = false) ∧ wpList P ops Q (ops.toList.drop t) a' w'
  let I : Array Bool → Act → World → Prop := fun listed a' w' => listed.size = ops.size ∧ closedL ops listed ∧ (I1 listed a' w' ∨ I2 listed a' w')
  have hlist : ∀ (listed : Array Bool) i o, listed.size = ops.size → closedL ops listed → i ∈ Region.ready .any ops listed → ops[i]? = some o →
      (listed.setIfInBounds i true).size = ops.size ∧ closedL ops (listed.setIfInBounds i true) ∧ (∀ k, waitsB ops i k = true → listed.getD k false = true) := by
    intro listed i o hs hc hi ho
    obtain ⟨hun, o', ho', hall⟩ := mem_ready.1 hi
    have hw : ∀ k, waitsB ops i k = true → listed.getD k false = true := fun k hk => by
      obtain ⟨o2, ho2, e, he, hb, hon⟩ := waitsB_spec hk
      have : o2 = o' := Option.some.inj (ho2.symm.trans ho')
      subst this
      rw [← hon]; exact hall e he hb
    refine ⟨by simpa using hs, ?_, hw⟩
    intro j k hjk hj
    rw [getD_setT] at hj ⊢
    split
    · rfl
    · split at hj
      · rename_i h1; rw [← h1.1] at hjk; exact hw k hjk
      · exact hc j k hjk hj
  -- from the whole of the first n to the tail
  have to2 : ∀ listed a' w', (∀ k, k < n → listed.getD k false = true) → I1 listed a' w' → I2 listed a' w' := by
    intro listed a' w' hall ⟨h1, h2, h3, h4, h5⟩
    refine ⟨n, Nat.le_refl _, hn, hall, h1, hend listed a' w' hall h2 h3 h4 (fun s => ?_)⟩
    have := h5 s
    rwa [asnOf_full n (fun j hj _ => hall j hj)] at this
  -- one operation
  have hstep : ∀ listed a' w', I listed a' w' → ∀ i, i ∈ Region.ready .any ops listed → wpOp P ops Q i (I (listed.setIfInBounds i true)) a' w' := by
    intro listed a' w' ⟨hs, hc, hI⟩ i hi
    obtain ⟨hun, o, ho, hall⟩ := mem_ready.1 hi
    obtain ⟨hs', hc', hw⟩ := hlist listed i o hs hc hi ho
    have hilt : i < ops.size := (Array.getElem?_eq_some_iff.1 ho).1
    have hunf := getD_ff hun
    -- phase one or two
    have key : (i < n ∧ I1 listed a' w') ∨ I2 listed a' w' := by
      rcases hI with h1 | h2
      · by_cases hin : i < n
        · exact Or.inl ⟨hin, h1⟩
        · right
          refine to2 _ _ _ (fun k hk => ?_) h1
          -- all before n are done
          have hi_n : i = n := by
            by_cases e : i = n
            · exact e
            · have h3 := hchain i hilt
              rcases h3 with h3 | h3
              · omega
              · have h4 := hw _ h3
                rw [h1.1 (i - 1) (by omega)] at h4; cases h4
          subst hi_n
          have hall2 : ∀ d k, i - k = d → k < i → listed.getD k false = true := by
            intro d
            induction d using Nat.strongRecOn with
            | _ d ih =>
              intro k hd hk
              rcases hsink k hk with h3 | ⟨j, hj, hj2⟩
              · omega
              · by_cases e : j = i
                · subst e; exact hw k hj2.2
                · exact hc j k hj2.2 (ih (i - j) (by omega) j rfl (by omega))
          exact hall2 _ k rfl hk
      · exact Or.inr h2
    unfold wpOp
    simp only [ho]
    rcases key with ⟨hin, h1, h2, h3, h4, h5⟩ | ⟨t, ht1, ht2, ht3, ht4, ht5⟩
    · -- an operation of the first n
      have hasn : ∀ s ∈ o.looksAt ops, asnAt ops F0 A i s w' (a'.tmps.getD s undef) := by
        intro s hsl
        have h6 := h5 s
        have e1 : asnOf ops F0 A listed n s = asnOf ops F0 A listed i s := asnOf_later n (by omega) (fun j h7 h8 hd => by
          cases hlj : listed.getD j false with
          | false => rfl
          | true =>
            by_cases e : j = i
            · subst e; rw [hunf] at hlj; cases hlj
            · have h9 := hsep j h8 i (by omega)
              cases hoj : ops[j]? with
              | none => simp [hoj] at hd
              | some oj =>
                simp only [hoj, Option.bind_some] at hd
                have hcl : clashB ops i j = true := by
                  unfold clashB
                  simp only [ho, hoj, hd]
                  simp [hsl]
                rw [hcl] at h9
                rcases h9 with h9 | h9
                · cases h9
                · have := hc j i h9 hlj
                  rw [hunf] at this; cases this)
        have e2 : asnOf ops F0 A listed i s = asnAt ops F0 A i s := asnOf_full i (fun j h7 hd => by
          have h9 := hsep i hin j h7
          cases hoj : ops[j]? with
          | none => simp [hoj] at hd
          | some oj =>
            simp only [hoj, Option.bind_some] at hd
            have hcl : clashB ops j i = true := by
              unfold clashB
              simp only [ho, hoj, hd]
              simp [hsl]
            rw [hcl] at h9
            rcases h9 with h9 | h9
            · cases h9
            · exact hw j h9)
        rw [e1, e2] at h6
        exact h6
      have hmain := hop i o hin ho listed a' w' hc hw hunf h2 hasn
      -- behind it
      have hnext : ∀ v w'', A i w'' v → J (listed.setIfInBounds i true) (a'.put o.dst v) w'' → (∀ k, k < n → k ≠ i → listed.getD k false = true → ∀ v, A k w' v → A k w'' v) → I (listed.setIfInBounds i true) (a'.put o.dst v) w'' := by
        intro v w'' hv hJ' hk
        refine ⟨hs', hc', Or.inl ⟨fun t ht => ?_, hJ', ?_, ?_, fun s => ?_⟩⟩
        · rw [getD_setT, if_neg (by omega)]; exact h1 t ht
        · cases hd : o.dst with
          | none => simp [Act.put, h3]
          | some d => simp [Act.put, h3]
        · cases hd : o.dst with
          | none => simp [Act.put, h4]
          | some d => simp [Act.put, h4]
        · have hcarry : asnOf ops F0 A listed n s w'' (a'.tmps.getD s undef) := by
            refine asnOf_mono (w := w') (w' := w'') (fun _ h => h) n (fun k hk1 hk2 => hk k hk1 (fun e => ?_) hk2) (h5 s)
            subst e; rw [hunf] at hk2; cases hk2
          by_cases hds : o.dst = some s
          · -- its own temporary
            have hsz := hN i o s hin ho hds
            have hget : (a'.put o.dst v).tmps.getD s undef = v := by
              rw [hds]; simp [Act.put, h3, hsz]
            rw [hget]
            have e1 : asnOf ops F0 A (listed.setIfInBounds i true) n s = asnOf ops F0 A (listed.setIfInBounds i true) (i + 1) s := asnOf_later n (by omega) (fun j h7 h8 hd => by
              rw [getD_setT, if_neg (by omega)]
              cases hlj : listed.getD j false with
              | false => rfl
              | true =>
                have h9 := hsep j h8 i (by omega)
                cases hoj : ops[j]? with
                | none => simp [hoj] at hd
                | some oj =>
                  simp only [hoj, Option.bind_some] at hd
                  have hcl : clashB ops i j = true := by
                    unfold clashB
                    simp only [ho, hoj, hd, hds]
                    simp
                  rw [hcl] at h9
                  rcases h9 with h9 | h9
                  · cases h9
                  · have := hc j i h9 hlj
                    rw [hunf] at this; cases this)
            rw [e1]
            simp only [asnOf]
            rw [if_pos ⟨by rw [getD_setT, if_pos ⟨rfl, by omega⟩], by rw [ho]; exact hds⟩]
            exact hv
          · have hget : (a'.put o.dst v).tmps.getD s undef = a'.tmps.getD s undef := by
              cases hd : o.dst with
              | none => rfl
              | some d =>
                have hne : d ≠ s := fun e => hds (by rw [hd, e])
                simp [Act.put, Array.getElem?_setIfInBounds_ne hne]
            rw [hget]
            have e1 : asnOf ops F0 A (listed.setIfInBounds i true) n s = asnOf ops F0 A listed n s := asnOf_congr n (fun j h7 hd => by
              rw [getD_setT, if_neg]
              rintro ⟨rfl, _⟩
              rw [ho] at hd; exact hds hd)
            rw [e1]; exact hcarry
      split
      · rename_i hwt
        rw [if_pos hwt] at hmain
        exact Or.inl (hmain.wp fun v w'' ⟨hv, hJ', hk⟩ => hnext v w'' hv hJ' hk)
      · rename_i hwt
        rw [if_neg hwt] at hmain
        exact hnext undef w' hmain.1 hmain.2 (fun _ _ _ _ _ h => h)
    · -- the tail
      have hit : i = t := by
        have h6 : t ≤ i := by
          rcases Nat.lt_or_ge i t with h | h
          · have := ht3 i h; rw [hunf] at this; cases this
          · exact h
        by_cases e : i = t
        · exact e
        · rcases hchain i hilt with h7 | h7
          · omega
          · have := hw _ h7
            rw [ht4 (i - 1) (by omega)] at this; cases this
      subst hit
      have hdrop : ops.toList.drop i = o :: ops.toList.drop (i + 1) := by
        rw [List.drop_eq_getElem_cons (by simpa using hilt)]
        congr 1
        have := (Array.getElem?_eq_some_iff.1 ho).2
        simpa using this
      rw [hdrop] at ht5
      have hnext : ∀ a'' w'', wpList P ops Q (ops.toList.drop (i + 1)) a'' w'' → I (listed.setIfInBounds i true) a'' w'' := by
        intro a'' w'' h
        refine ⟨hs', hc', Or.inr ⟨i + 1, by omega, by omega, fun k hk => ?_, fun k hk => ?_, h⟩⟩
        · rw [getD_setT]
          split
          · rfl
          · rename_i h6
            exact ht3 k (by
              by_cases e : i = k
              · exact absurd ⟨e, by omega⟩ h6
              · omega)
        · rw [getD_setT, if_neg (by omega)]; exact ht4 k (by omega)
      unfold wpList at ht5
      split
      · rename_i hwt
        rw [if_pos hwt] at ht5
        rcases ht5 with h | h
        · exact Or.inl (Oper.wp_mono (fun a w h => hnext a w h) h)
        · exact Or.inr h
      · rename_i hwt
        rw [if_neg hwt] at ht5
        exact hnext _ _ ht5
  -- nothing is left
  have hdone : ∀ listed a' w', I listed a' w' → Region.ready .any ops listed = [] → Q .normal a' w' := by
    intro listed a' w' ⟨hs, hc, hI⟩ hr
    have hallD : ∀ k, k < ops.size → listed.getD k false = true := by
      intro k
      induction k using Nat.strongRecOn with
      | _ k ih =>
        intro hk
        cases hl : listed.getD k false with
        | true => rfl
        | false =>
          have hmem : k ∈ Region.ready .any ops listed := by
            refine mem_ready.2 ⟨by simpa [hs, hk] using hl, ops[k], by simp [hk], fun e he hb => ?_⟩
            have hwk : waitsB ops k e.on = true := by
              unfold waitsB
              simp only [Array.getElem?_eq_getElem hk]
              exact Array.any_eq_true'.2 ⟨e, he, by simp [hb]⟩
            have := hbk k e.on hwk
            exact ih e.on this (by omega)
          rw [hr] at hmem; cases hmem
    have h2 : I2 listed a' w' := by
      rcases hI with h1 | h2
      · exact to2 _ _ _ (fun k hk => hallD k (by omega)) h1
      · exact h2
    obtain ⟨t, ht1, ht2, ht3, ht4, ht5⟩ := h2
    have : t = ops.size := by
      rcases Nat.lt_or_ge t ops.size with h | h
      · have := hallD t h; rw [ht4 t (Nat.le_refl _)] at this; cases this
      · omega
    subst this
    rw [List.drop_of_length_le (by simp)] at ht5
    exact ht5
  -- the walk
  refine wp_region_any hm ?_
  have hwalk : ∀ fuel (listed : Array Bool) a' w', ((List.range ops.size).filter fun i => !listed.getD i true).length ≤ fuel → I listed a' w' → wpAny P .any ops Q fuel listed a' w' := by
    intro fuel
    induction fuel with
    | zero =>
      intro listed a' w' hf hI
      have hr : Region.ready .any ops listed = [] := by
        rw [List.eq_nil_iff_forall_not_mem]
        intro i hi
        have hm' : i ∈ (List.range ops.size).filter fun i => !listed.getD i true := by
          obtain ⟨hun, o, ho, _⟩ := mem_ready.1 hi
          exact List.mem_filter.2 ⟨List.mem_range.2 (Array.getElem?_eq_some_iff.1 ho).1, by rw [hun]; rfl⟩
        have := List.length_pos_of_mem hm'
        omega
      exact ⟨hr, hdone _ _ _ hI hr⟩
    | succ fuel ih =>
      intro listed a' w' hf hI
      refine ⟨hdone _ _ _ hI, fun i hi => ?_⟩
      refine wpOp_mono (fun a'' w'' h => ih _ a'' w'' ?_ h) (hstep _ _ _ hI i hi)
      obtain ⟨hun, o, ho, _⟩ := mem_ready.1 hi
      have hilt : i < ops.size := (Array.getElem?_eq_some_iff.1 ho).1
      have hm' : i ∈ (List.range ops.size).filter fun i => !listed.getD i true := List.mem_filter.2 ⟨List.mem_range.2 hilt, by rw [hun]; rfl⟩
      have hsub : ((List.range ops.size).filter fun j => !(listed.setIfInBounds i true).getD j true).length < ((List.range ops.size).filter fun j => !listed.getD j true).length := by
        have h1 : ((List.range ops.size).filter fun j => !(listed.setIfInBounds i true).getD j true) = ((List.range ops.size).filter fun j => !listed.getD j true).filter (fun j => j != i) := by
          rw [List.filter_filter]
          apply List.filter_congr
          intro j _
          rw [getD_setT]
          by_cases e : i = j
          · subst e
            by_cases hl : i < listed.size
            · simp [hl]
            · simp [hl]
          · have e' : (j != i) = true := by simp; omega
            simp [e, e']
        rw [h1]
        exact List.length_filter_lt_length_iff_exists.2 ⟨i, hm', by simp⟩
      omega
  refine hwalk ops.size _ a _ ?_ ⟨by simp, fun j i h hj => ?_, Or.inl ⟨fun t _ => ?_, hJ, rfl, rfl, fun s => ?_⟩⟩
  · exact Nat.le_trans (List.length_filter_le _ _) (by simp)
  · exfalso
    rw [getD_replicate_false'] at hj; cases hj
  · exact getD_replicate_false' _ _
  · have : ∀ k, asnOf ops F0 A (Array.replicate ops.size false) k s = F0 s := by
      intro k
      induction k with
      | zero => rfl
      | succ k ih =>
        simp only [asnOf]
        rw [if_neg (fun h => by rw [getD_replicate_false'] at h; cases h.1), ih]
    rw [this]


end
end Go.Proofs.Ytfihlmnbonnekaa
