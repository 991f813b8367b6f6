/- A region that draws its order and lays two new variables: they are two. No dump, no condition. -/
import Derived.Test.YtfihlmnbonnekaaEffA
namespace Go.Proofs.Ytfihlmnbonnekaa
open Go.RowKit

theorem getD_put {a : Act} {d s : Nat} {v : Value} (hd : d < a.tmps.size) : (a.put (some d) v).tmps.getD s undef = if d = s then v else a.tmps.getD s undef := by
  show (a.tmps.setIfInBounds d v).getD s undef = _
  by_cases h : d = s
  · subst h; simp [hd]
  · simp [h]
theorem rep_ff {n i : Nat} (h : (Array.replicate n false).getD i false = true) : False := by
  rw [getD_replicate_false'] at h
  cases h
/-- two variables that were laid are two -/
def TwoJ (w : World) (m k i1 i2 d1 d2 : Nat) (listed : Array Bool) (a' : Act) (w' : World) : Prop :=
  listed.size = m ∧ a'.tmps.size = k ∧ Own w w' [] ∧ (listed.getD i1 false = true → ∃ g, a'.tmps.getD d1 undef = .pointer (some ⟨g, 0, none⟩) ∧ g < w'.heap.size) ∧
    (listed.getD i2 false = true → ∃ g, a'.tmps.getD d2 undef = .pointer (some ⟨g, 0, none⟩) ∧ g < w'.heap.size) ∧ (listed.getD i1 false = true → listed.getD i2 false = true → a'.tmps.getD d1 undef ≠ a'.tmps.getD d2 undef)
theorem TwoJ.step {w w' w'' : World} {m k i1 i2 d1 d2 i d : Nat} {listed : Array Bool} {a' : Act} {v : Value} (h : TwoJ w m k i1 i2 d1 d2 listed a' w') (hd : d < k) (h12 : i1 ≠ i2)
    (hdd1 : i ≠ i1 → d ≠ d1) (hdd2 : i ≠ i2 → d ≠ d2) (hde1 : i = i1 → d = d1) (hde2 : i = i2 → d = d2) (ho : Own w' w'' []) (hg : (i = i1 ∨ i = i2) → ∃ g, v = .pointer (some ⟨g, 0, none⟩) ∧ w'.heap.size ≤ g ∧ g < w''.heap.size) :
    TwoJ w m k i1 i2 d1 d2 (listed.setIfInBounds i true) (a'.put (some d) v) w'' := by
  obtain ⟨h1, h2, h3, h4, h5, h6⟩ := h
  have hs : ∀ j, (listed.setIfInBounds i true).getD j false = true → j = i ∨ listed.getD j false = true := fun j hj => by
    rw [getD_setT] at hj
    split at hj
    · rename_i e; exact Or.inl e.1.symm
    · exact Or.inr hj
  have hp : ∀ s, (a'.put (some d) v).tmps.getD s undef = if d = s then v else a'.tmps.getD s undef := fun s => getD_put (by omega)
  refine ⟨by rw [Array.size_setIfInBounds]; exact h1, by show (a'.tmps.setIfInBounds d v).size = k; rw [Array.size_setIfInBounds]; exact h2, h3.trans ho, fun hl => ?_, fun hl => ?_, fun hl1 hl2 => ?_⟩
  · rw [hp]
    by_cases e : i = i1
    · obtain ⟨g, rfl, _, g2⟩ := hg (Or.inl e)
      rw [if_pos (hde1 e)]
      exact ⟨g, rfl, g2⟩
    · rw [if_neg (hdd1 e)]
      obtain ⟨g, e1, e2⟩ := h4 ((hs i1 hl).resolve_left (fun h => e h.symm))
      exact ⟨g, e1, Nat.lt_of_lt_of_le e2 ho.size⟩
  · rw [hp]
    by_cases e : i = i2
    · obtain ⟨g, rfl, _, g2⟩ := hg (Or.inr e)
      rw [if_pos (hde2 e)]
      exact ⟨g, rfl, g2⟩
    · rw [if_neg (hdd2 e)]
      obtain ⟨g, e1, e2⟩ := h5 ((hs i2 hl).resolve_left (fun h => e h.symm))
      exact ⟨g, e1, Nat.lt_of_lt_of_le e2 ho.size⟩
  · rw [hp, hp]
    by_cases e : i = i1
    · have e2 : i ≠ i2 := fun h => h12 (e.symm.trans h)
      obtain ⟨g, rfl, g1, g2⟩ := hg (Or.inl e)
      rw [if_pos (hde1 e), if_neg (hdd2 e2)]
      obtain ⟨g', f1, f2⟩ := h5 ((hs i2 hl2).resolve_left (fun h => e2 h.symm))
      rw [f1]
      intro hc
      cases hc
      omega
    · by_cases e2 : i = i2
      · obtain ⟨g, rfl, g1, g2⟩ := hg (Or.inr e2)
        rw [if_neg (hdd1 e), if_pos (hde2 e2)]
        obtain ⟨g', f1, f2⟩ := h4 ((hs i1 hl1).resolve_left (fun h => e h.symm))
        rw [f1]
        intro hc
        cases hc
        omega
      · rw [if_neg (hdd1 e), if_neg (hdd2 e2)]
        exact h6 ((hs i1 hl1).resolve_left (fun h => e h.symm)) ((hs i2 hl2).resolve_left (fun h => e2 h.symm))
theorem region_grow2 {P : Program} {id : Nat} {l : List Oper} {Q : Exit → Act → World → Prop} {a : Act} {w : World} (n : Nat) (hm : P.follows .mixedOrders = true) (hB : (regB l.toArray n && Region.noSelect l.toArray && apartB l.toArray n) = true) (hN : dstsB l.toArray n a.tmps.size = true)
    (sps : List Sp) (hl : sps.length = n)
    (i1 i2 d1 d2 : Nat) (h1n : i1 < n) (h2n : i2 < n) (h12 : i1 ≠ i2) (hd1 : l.toArray[i1]?.bind (·.dst) = some d1) (hd2 : l.toArray[i2]?.bind (·.dst) = some d2)
    (hal : ∀ i, (i = i1 ∨ i = i2) → ∀ o, l.toArray[i]? = some o → o.guard = none ∧ ∀ (a' : Act) (w' : World), ∃ g w'', (execOp a'.eval o).run P w' = .ok (.value (.pointer (some ⟨g, 0, none⟩))) w'' ∧ w'.heap.size ≤ g ∧ g < w''.heap.size)
    (h : wpSp P l.toArray w (fun F a' => ∀ w', Own w w' [] → F w' (fun _ => True) → a'.tmps.getD d1 undef ≠ a'.tmps.getD d2 undef → wpList P l.toArray Q (l.drop n) a' w') sps l (fun _ _ => True) a) : (Code.region id l.toArray true).wp P Q a w := by
  simp only [Bool.and_eq_true] at hB
  obtain ⟨⟨hB, hsel⟩, hap⟩ := hB
  have hN' := dstsB_spec hN
  have h' : wpSp P l.toArray w (fun F a' => ∀ w', Own w w' [] → F w' (fun _ => True) → a'.tmps.getD d1 undef ≠ a'.tmps.getD d2 undef → wpList P l.toArray Q (l.drop n) a' w') sps (l.toArray.toList.drop 0) (fun _ _ => True) (frameAt l.toArray (fun _ => undef) a 0) := by simpa [frameAt] using h
  have hat : ∀ (vals : Nat → Value), (∀ j v, sps[j]? = some (.val v) → vals j = v) → ∀ i, i ≤ n → _ := fun vals hv i hi =>
    wpSp_at (P := P) (ops := l.toArray) (w := w) (a := a) vals i sps 0 (fun _ _ => True) (fun j v hj => by rw [Nat.zero_add]; exact hv j v hj) h' (by omega)
  -- the values that go with a frame
  let A : Nat → Asn := fun i => match sps[i]? with | some s => s.asn | none => fun _ _ => True
  let vof : Act → Nat → Value := fun a' j => match sps[j]? with | some (.val v) => v | _ => match (l.toArray[j]?).bind (·.dst) with | some d => a'.tmps.getD d undef | none => undef
  have hvof : ∀ a' j v, sps[j]? = some (.val v) → vof a' j = v := fun a' j v hj => by simp only [vof, hj]
  have hfr : ∀ (a' : Act) (w' : World) (i s : Nat), i ≤ n → asnAt l.toArray (fun s _ v => v = a.tmps.getD s undef) A i s w' (a'.tmps.getD s undef) → a'.tmps.getD s undef = (frameAt l.toArray (vof a') a i).tmps.getD s undef := by
    intro a' w' i s hi hasn
    refine asnAt_frame' i (fun j o d hj => hN' j o d (by omega)) (fun j hj hd hA => ?_) hasn
    have hjs : j < sps.length := by omega
    simp only [A, List.getElem?_eq_getElem hjs] at hA
    simp only [vof, List.getElem?_eq_getElem hjs, hd]
    cases hs : sps[j] with
    | val v => rw [hs] at hA; exact hA
    | rel A0 => rfl
  have hF : ∀ (a' : Act) (w' : World) (i : Nat) (S : Nat → Prop), i ≤ n → (∀ s, S s → asnAt l.toArray (fun s _ v => v = a.tmps.getD s undef) A i s w' (a'.tmps.getD s undef)) →
      ∀ j A0 d, j < i → sps[j]? = some (.rel A0) → l.toArray[0 + j]?.bind (·.dst) = some d → S d → A0 w' (vof a' (0 + j)) := by
    intro a' w' i S hi hS j A0 d hj hs hd hSd
    rw [Nat.zero_add] at hd ⊢
    have h1 := asnAt_of (A := A) hap hd i hi hj (hS d hSd)
    simp only [A, hs] at h1
    simp only [vof, hs, hd]
    exact h1
  have hmono : ∀ k, k < n → Mono (A k) := by
    intro k hk
    have hks : k < sps.length := by omega
    obtain ⟨F', _, f2⟩ := hat (vof a) (hvof a) k (by omega)
    simp only [A, List.getElem?_eq_getElem hks]
    rw [List.drop_eq_getElem_cons hks] at f2
    cases hs : sps[k] with
    | val v => exact Sp.mono_val v
    | rel A0 =>
      rw [hs] at f2
      cases hd : l.toArray.toList.drop (0 + k) with
      | nil => rw [hd] at f2; exact f2.elim
      | cons o rest => rw [hd] at f2; exact f2.1
  refine region_relF n hm hB hN' (TwoJ w l.toArray.size a.tmps.size i1 i2 d1 d2) A ⟨Array.size_replicate .., rfl, (Own.refl w).drew, fun h => (rep_ff h).elim, fun h => (rep_ff h).elim, fun h => (rep_ff h).elim⟩ ?_ ?_
  · intro i o hi ho listed a' w' _ _ _ hJ0 hasn
    have hJ := hJ0.2.2.1
    have his : i < sps.length := by omega
    have hio : i < l.toArray.toList.length := by have := (Array.getElem?_eq_some_iff.1 ho).1; simpa using this
    have heq : ∀ s ∈ o.looksAt l.toArray, a'.tmps.getD s undef = (frameAt l.toArray (vof a') a i).tmps.getD s undef := fun s hs => hfr a' w' i s (by omega) (hasn s hs)
    obtain ⟨F', f1, f2⟩ := hat (vof a') (hvof a') i (by omega)
    have hFw := f1 w' (fun s => s ∈ o.looksAt l.toArray) trivial (hF a' w' i _ (by omega) hasn)
    have hsel' := Region.noSelect_spec hsel
    have hexec : execOp a'.eval o = execOp (frameAt l.toArray (vof a') a i).eval o := execOp_congr o (fun cs b => hsel' i o cs b ho) (fun x hx => by
      cases x with
      | tmp t => exact heq t (List.mem_append_left _ (List.mem_filterMap.2 ⟨.tmp t, by simpa using hx, rfl⟩))
      | _ => rfl)
    rw [wanted_congr heq]
    rw [Nat.zero_add, List.drop_eq_getElem_cons his, List.drop_eq_getElem_cons hio] at f2
    have hoe : l.toArray.toList[i] = o := by
      have := (Array.getElem?_eq_some_iff.1 ho).2
      simpa using this
    rw [hoe] at f2
    obtain ⟨d, hd⟩ := apartB_some hap hi
    have hod : o.dst = some d := by simpa [ho] using hd
    have hdd1 : i ≠ i1 → d ≠ d1 := fun hne e => apartB_ne hap hi h1n (fun e2 => hne e2.symm) (by rw [hd, hd1, e])
    have hdd2 : i ≠ i2 → d ≠ d2 := fun hne e => apartB_ne hap hi h2n (fun e2 => hne e2.symm) (by rw [hd, hd2, e])
    have hde1 : i = i1 → d = d1 := fun e => by subst e; rw [hd] at hd1; exact Option.some.inj hd1
    have hde2 : i = i2 → d = d2 := fun e => by subst e; rw [hd] at hd2; exact Option.some.inj hd2
    have step := fun v w'' => TwoJ.step (v := v) (w'' := w'') hJ0 (hN' i o d hi ho hod) h12 hdd1 hdd2 hde1 hde2
    have halr : (i = i1 ∨ i = i2) → ∃ g w'', (execOp (frameAt l.toArray (vof a') a i).eval o).run P w' = .ok (.value (.pointer (some ⟨g, 0, none⟩))) w'' ∧ w'.heap.size ≤ g ∧ g < w''.heap.size := fun h => (hal i h o ho).2 _ w'
    rw [hod]
    have hdlt : d < (frameAt l.toArray (vof a') a i).tmps.size := by rw [frameAt_size]; exact hN' i o d hi ho hod
    simp only [A, List.getElem?_eq_getElem his]
    cases hs : sps[i] with
    | val v =>
      rw [hs] at f2
      obtain ⟨f2, _⟩ := f2
      have hq := f2 w' hJ hFw
      split at hq
      · rename_i hw
        rw [if_pos hw]
        unfold YieldsTo at hq ⊢
        rw [hexec]
        generalize (execOp (frameAt l.toArray (vof a') a i).eval o).run P w' = r at *
        cases r with
        | halt x w'' => exact hq.elim
        | ok nx w'' =>
          cases nx <;> simp only at hq ⊢
          case value x => exact ⟨hq.1, step _ _ hq.2 (fun h => by obtain ⟨g, w3, e, e2⟩ := halr h; cases e; exact ⟨g, rfl, e2⟩), fun k hk _ _ v h => hmono k hk _ _ _ hq.2 h⟩
          case skip => exact ⟨hq.1, step _ _ hq.2 (fun h => by obtain ⟨g, w3, e, e2⟩ := halr h; cases e), fun k hk _ _ v h => hmono k hk _ _ _ hq.2 h⟩
          case enter f args => exact hq.mono fun e w3 ⟨u, he, h1, h2⟩ => ⟨u, he, h1, step _ _ h2 (fun h => by obtain ⟨g, w3, e, e2⟩ := halr h; cases e), fun k hk _ _ v h => hmono k hk _ _ _ h2 h⟩
      · rename_i hw
        rw [if_neg hw]
        exact ⟨hq, step _ _ (Own.refl w') (fun h => by exact absurd (show Region.wanted o _ = true by simp [Region.wanted, (hal i h o ho).1]) hw)⟩
    | rel A0 =>
      rw [hs] at f2
      obtain ⟨_, hw, f3, _⟩ := f2
      rw [if_pos hw]
      have hy := f3 w' hJ hFw
      unfold YieldsTo at hy ⊢
      rw [hexec]
      generalize (execOp (frameAt l.toArray (vof a') a i).eval o).run P w' = r at *
      cases r with
      | halt x w'' => exact hy.elim
      | ok nx w'' =>
        cases nx <;> simp only at hy ⊢
        case value x => exact ⟨hy.2, step _ _ hy.1 (fun h => by obtain ⟨g, w3, e, e2⟩ := halr h; cases e; exact ⟨g, rfl, e2⟩), fun k hk _ _ v h => hmono k hk _ _ _ hy.1 h⟩
        case skip => exact ⟨hy.2, step _ _ hy.1 (fun h => by obtain ⟨g, w3, e, e2⟩ := halr h; cases e), fun k hk _ _ v h => hmono k hk _ _ _ hy.1 h⟩
        case enter f args => exact hy.mono fun e w3 ⟨v, he, h1, h2⟩ => ⟨v, he, h2, step _ _ h1 (fun h => by obtain ⟨g, w3, e, e2⟩ := halr h; cases e), fun k hk _ _ v h => hmono k hk _ _ _ h1 h⟩
  · intro listed a' w' hall hJ0 hs hd hasn
    have hJ := hJ0.2.2.1
    have hdiff := hJ0.2.2.2.2.2 (hall i1 h1n) (hall i2 h2n)
    have : a' = frameAt l.toArray (vof a') a n := by
      have h1 := frameAt_size (ops := l.toArray) (vals := vof a') (a := a) n
      have h2 := frameAt_defers (ops := l.toArray) (vals := vof a') (a := a) n
      have h3 : a'.tmps = (frameAt l.toArray (vof a') a n).tmps := by
        apply Array.ext
        · omega
        · intro j hj1 hj2
          have := hfr a' w' n j (Nat.le_refl _) (hasn j)
          simpa [hj1, hj2] using this
      generalize frameAt l.toArray (vof a') a n = fr at h2 h3
      obtain ⟨t1, d1⟩ := a'
      obtain ⟨t3, d3⟩ := fr
      simp only at h2 h3 hd
      rw [h3, hd, h2]
    obtain ⟨F', f1, f2⟩ := hat (vof a') (hvof a') n (Nat.le_refl _)
    have hFw := f1 w' (fun _ => True) trivial (hF a' w' n _ (Nat.le_refl _) (fun s _ => hasn s))
    have hd0 : sps.drop n = [] := List.drop_of_length_le (by omega)
    rw [hd0] at f2
    simp only [wpSp] at f2
    rw [Nat.zero_add, ← this] at f2
    simpa using f2 w' hJ hFw hdiff


end Go.Proofs.Ytfihlmnbonnekaa
