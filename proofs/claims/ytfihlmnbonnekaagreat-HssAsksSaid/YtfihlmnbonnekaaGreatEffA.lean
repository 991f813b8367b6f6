/- The law of regions that draw their order once more, for regions with steps that change something, one behind the other. And what stands on it. No condition. -/
import Derived.Test.YtfihlmnbonnekaaGreatMa
namespace Go.Proofs.YtfihlmnbonnekaaGreat
open Go.RowKit
set_option maxHeartbeats 32000000
inductive Se
 | val (v : Value)
 | rel (A : World → Value → Prop)
 | eff (E : World → World → Prop) (A : World → Value → Prop)
def Se.asn : Se → Asn
 | .val v => fun _ v' => v' = v
 | .rel A => A
 | .eff _ A => A
def Se.isEff : Se → Bool
 | .eff _ _ => true
 | _ => false
def Se.pres (E : World → World → Prop) : Se → Prop
 | .val _ => True
 | .rel A => ∀ w1 w2 v, E w1 w2 → A w1 v → A w2 v
 | .eff _ A => ∀ w1 w2 v, E w1 w2 → A w1 v → A w2 v
def eRow (ops : Array Oper) (E : World → World → Prop) (i : Nat) : Nat → List Se → Prop
 | _, [] => True
 | k, s :: r => (k = i ∨ waitsB ops k i = true ∨ s.pres E) ∧ eRow ops E i (k + 1) r
theorem eRow_at {ops : Array Oper} {E : World → World → Prop} {i : Nat} : ∀ (r : List Se) (k0 : Nat), eRow ops E i k0 r → ∀ j s, r[j]? = some s → k0 + j = i ∨ waitsB ops (k0 + j) i = true ∨ s.pres E
 | [], _, _, j, s, hj => by simp at hj
 | s0 :: r, k0, h, 0, s, hj => by simp at hj; subst hj; simpa using h.1
 | s0 :: r, k0, h, j + 1, s, hj => by
   have := eRow_at r (k0 + 1) h.2 j s (by simpa using hj)
   rwa [show k0 + 1 + j = k0 + (j + 1) by omega] at this
def eAll (ops : Array Oper) (all : List Se) : Nat → List Se → Prop
 | _, [] => True
 | i, .eff E _ :: r => eRow ops E i 0 all ∧ eAll ops all (i + 1) r
 | i, .val _ :: r => eAll ops all (i + 1) r
 | i, .rel _ :: r => eAll ops all (i + 1) r
theorem eAll_at {ops : Array Oper} {all : List Se} : ∀ (r : List Se) (i0 : Nat), eAll ops all i0 r → ∀ j E A, r[j]? = some (.eff E A) → eRow ops E (i0 + j) 0 all
 | [], _, _, j, E, A, hj => by simp at hj
 | s0 :: r, i0, h, 0, E, A, hj => by
   simp at hj
   subst hj
   exact h.1
 | s0 :: r, i0, h, j + 1, E, A, hj => by
   have h' : eAll ops all (i0 + 1) r := by
    cases s0 with
    | val v => exact h
    | rel A => exact h
    | eff E A => exact h.2
   have := eAll_at r (i0 + 1) h' j E A (by simpa using hj)
   rwa [show i0 + 1 + j = i0 + (j + 1) by omega] at this
def cntE (fl : Nat → Bool) (listed : Array Bool) : Nat → Nat
 | 0 => 0
 | k + 1 => cntE fl listed k + if fl k && listed.getD k false then 1 else 0
def rankE (fl : Nat → Bool) : Nat → Nat
 | 0 => 0
 | k + 1 => rankE fl k + if fl k then 1 else 0
theorem cntE_none {fl : Nat → Bool} {m : Nat} : ∀ k, cntE fl (Array.replicate m false) k = 0
 | 0 => rfl
 | k + 1 => by simp only [cntE]; rw [cntE_none k, getD_replicate_false']; simp
theorem cntE_all {fl : Nat → Bool} {listed : Array Bool} : ∀ k, (∀ j, j < k → listed.getD j false = true) → cntE fl listed k = rankE fl k
 | 0, _ => rfl
 | k + 1, h => by simp only [cntE, rankE]; rw [cntE_all k (fun j hj => h j (by omega)), h k (by omega)]; simp
theorem cntE_pre {fl : Nat → Bool} {listed : Array Bool} : ∀ k, (∀ j, j < k → fl j = true → listed.getD j false = true) → cntE fl listed k = rankE fl k
 | 0, _ => rfl
 | k + 1, h => by
   simp only [cntE, rankE]
   rw [cntE_pre k (fun j hj => h j (by omega))]
   cases hf : fl k with
   | false => simp
   | true => rw [h k (by omega) hf]; simp
theorem cntE_post {fl : Nat → Bool} {listed : Array Bool} {i : Nat} : ∀ k, i ≤ k → (∀ j, i ≤ j → j < k → fl j = true → listed.getD j false = false) → cntE fl listed k = cntE fl listed i
 | 0, h, _ => by obtain rfl : i = 0 := by omega
                 rfl
 | k + 1, h, hp => by
   by_cases e : i = k + 1
   · rw [e]
   · simp only [cntE]
     rw [cntE_post k (by omega) (fun j h1 h2 => hp j h1 (by omega))]
     cases hf : fl k with
     | false => simp
     | true => rw [hp k (by omega) (by omega) hf]; simp
theorem cntE_congr {fl : Nat → Bool} {l1 l2 : Array Bool} : ∀ k, (∀ j, j < k → fl j = true → l1.getD j false = l2.getD j false) → cntE fl l1 k = cntE fl l2 k
 | 0, _ => rfl
 | k + 1, h => by
   simp only [cntE]
   rw [cntE_congr k (fun j hj => h j (by omega))]
   cases hf : fl k with
   | false => simp
   | true => rw [h k (by omega) hf]
def flagsE (sps : List Se) (i : Nat) : Bool := match sps[i]? with | some s => s.isEff | none => false
def lineB (ops : Array Oper) (fl : List Bool) : Bool := ((List.range fl.length).all fun j => (List.range j).all fun i => !(fl.getD i false && fl.getD j false) || waitsB ops j i) && ((List.range fl.length).all fun j => (ops[j]?.bind (·.dst)).isSome || fl.getD j false)
def apartE (ops : Array Oper) (n : Nat) : Bool := (List.range n).all fun j => (List.range j).all fun i => (ops[j]?.bind (·.dst)).isNone || ops[j]?.bind (·.dst) != ops[i]?.bind (·.dst)
theorem apartE_ne {ops : Array Oper} {n i j d : Nat} (h : apartE ops n = true) (hj : j < n) (hi : i < n) (hij : i ≠ j) (hd : ops[j]?.bind (·.dst) = some d) : ops[i]?.bind (·.dst) ≠ some d := by
 simp only [apartE, List.all_eq_true, List.mem_range, Bool.or_eq_true, bne_iff_ne] at h
 intro hd2
 rcases Nat.lt_or_gt_of_ne hij with h1 | h1
 · rcases h j hj i h1 with h2 | h2
   · rw [hd] at h2; cases h2
   · exact h2 (hd.trans hd2.symm)
 · rcases h i hi j h1 with h2 | h2
   · rw [hd2] at h2; cases h2
   · exact h2 (hd2.trans hd.symm)
theorem asnAt_ofE {ops : Array Oper} {F0 A : Nat → Asn} {n d j : Nat} {w : World} {x : Value} (ha : apartE ops n = true) (hd : ops[j]?.bind (·.dst) = some d) : ∀ k, k ≤ n → j < k → asnAt ops F0 A k d w x → A j w x
 | 0, _, h, _ => by omega
 | k + 1, hk, hjk, h => by
   simp only [asnAt] at h
   split at h
   · rename_i hkd
     by_cases e : j = k
     · subst e; exact h
     · exact absurd hkd (apartE_ne ha (j := j) (i := k) (by omega) (by omega) (fun e' => e e'.symm) hd)
   · rename_i hkd
     have : j ≠ k := fun e => hkd (by rw [← e]; exact hd)
     exact asnAt_ofE ha hd k (by omega) (by omega) h
def wpSe (P : Program) (ops : Array Oper) (St : Nat → World → Prop) (K : Nat → (World → (Nat → Prop) → Prop) → Act → Prop) : Nat → List Se → List Oper → (World → (Nat → Prop) → Prop) → Act → Prop
 | r, [], _, F, a => K r F a
 | r, .val v :: sps, o :: rest, F, a => (∀ w', (∃ s, St s w') → F w' (fun s => s ∈ o.looksAt ops) → if Region.wanted o (yielded ops a.tmps) then YieldsTo P o a w' (fun v' w'' => v' = v ∧ Own w' w'' []) else undef = v) ∧ wpSe P ops St K r sps rest F (a.put o.dst v)
 | r, .rel A :: sps, o :: rest, F, a => Mono A ∧ Region.wanted o (yielded ops a.tmps) = true ∧ (∀ w', (∃ s, St s w') → F w' (fun s => s ∈ o.looksAt ops) → YieldsTo P o a w' (fun v w'' => Own w' w'' [] ∧ A w'' v)) ∧
    ∀ v, wpSe P ops St K r sps rest (fun w' S => F w' S ∧ ∀ d, o.dst = some d → S d → A w' v) (a.put o.dst v)
 | r, .eff E A :: sps, o :: rest, F, a => Mono A ∧ Region.wanted o (yielded ops a.tmps) = true ∧ (∀ w', St r w' → F w' (fun s => s ∈ o.looksAt ops) → YieldsTo P o a w' (fun v w'' => E w' w'' ∧ St (r + 1) w'' ∧ A w'' v ∧ (o.dst = none → v = undef))) ∧
    ∀ v, (o.dst = none → v = undef) → wpSe P ops St K (r + 1) sps rest (fun w' S => F w' S ∧ ∀ d, o.dst = some d → S d → A w' v) (a.put o.dst v)
 | _, _ :: _, [], _, _ => False
section
variable {P : Program} {ops : Array Oper}
theorem wpSe_at {St : Nat → World → Prop} {K : Nat → (World → (Nat → Prop) → Prop) → Act → Prop} {a : Act} (vals : Nat → Value) (fl : Nat → Bool) : ∀ (i : Nat) (sps : List Se) (k : Nat) (F : World → (Nat → Prop) → Prop), (∀ j v, sps[j]? = some (.val v) → vals (k + j) = v) →
 (∀ j, j < sps.length → fl (k + j) = flagsE sps j) → (∀ j, j < sps.length → ops[k + j]?.bind (·.dst) = none → vals (k + j) = undef) →
 wpSe P ops St K (rankE fl k) sps (ops.toList.drop k) F (frameAt ops vals a k) → i ≤ sps.length →
 ∃ F', (∀ w' S, F w' S → (∀ j s d, j < i → sps[j]? = some s → ops[k + j]?.bind (·.dst) = some d → S d → s.asn w' (vals (k + j))) → F' w' S) ∧
  wpSe P ops St K (rankE fl (k + i)) (sps.drop i) (ops.toList.drop (k + i)) F' (frameAt ops vals a (k + i))
 | 0, sps, k, F, _, _, _, h, _ => ⟨F, fun _ _ h _ => h, by simpa using h⟩
 | i + 1, [], k, F, _, _, _, _, hi => by simp at hi
 | i + 1, s :: sps, k, F, hv, hfl, hun, h, hi => by
   cases hl : ops.toList.drop k with
   | nil => rw [hl] at h; cases s <;> exact h.elim
   | cons o rest =>
     have ho : ops[k]? = some o := by
      have := congrArg (fun l => l[0]?) hl
      simpa using this
     have hrest : rest = ops.toList.drop (k + 1) := by
      have := congrArg List.tail hl
      simpa using this.symm
     have hfr : ∀ v, vals k = v → (frameAt ops vals a k).put o.dst v = frameAt ops vals a (k + 1) := by
      intro v hvk
      simp only [frameAt, ho, Option.bind_some, hvk]
     have hdr : (s :: sps).drop (i + 1) = sps.drop i := rfl
     have hf0 : fl k = s.isEff := by have := hfl 0 (by simp); simpa [flagsE] using this
     have hfl2 : ∀ j, j < sps.length → fl (k + 1 + j) = flagsE sps j := fun j hj => by
      have := hfl (j + 1) (by simpa using hj)
      rw [show k + (j + 1) = k + 1 + j by omega] at this
      simpa [flagsE] using this
     have hun2 : ∀ j, j < sps.length → ops[k + 1 + j]?.bind (·.dst) = none → vals (k + 1 + j) = undef := fun j hjl hj => by
      have := hun (j + 1) (by simpa using hjl) (by rw [show k + (j + 1) = k + 1 + j by omega]; exact hj)
      rwa [show k + (j + 1) = k + 1 + j by omega] at this
     rw [hl] at h
     have hv2 : ∀ j v, sps[j]? = some (.val v) → vals (k + 1 + j) = v := fun j v hj => by
      have := hv (j + 1) v (by simpa using hj)
      rwa [show k + (j + 1) = k + 1 + j by omega] at this
     cases s with
     | val v =>
       simp only [wpSe] at h
       obtain ⟨_, h2⟩ := h
       have hvk : vals k = v := hv 0 v (by simp)
       have hr : rankE fl k = rankE fl (k + 1) := by simp [rankE, hf0, Se.isEff]
       rw [hfr v hvk, hrest, hr] at h2
       obtain ⟨F', f1, f2⟩ := wpSe_at vals fl i sps (k + 1) F hv2 hfl2 hun2 h2 (by simpa using hi)
       refine ⟨F', fun w' S hF hA => f1 w' S hF fun j A d hj hs hd hS => ?_, ?_⟩
       · have := hA (j + 1) A d (by omega) (by simpa using hs) (by rw [show k + (j + 1) = k + 1 + j by omega]; exact hd) hS
         rwa [show k + (j + 1) = k + 1 + j by omega] at this
       · rw [hdr, show k + (i + 1) = k + 1 + i by omega]; exact f2
     | rel A0 =>
       simp only [wpSe] at h
       obtain ⟨_, _, _, h2⟩ := h
       have h2 := h2 (vals k)
       have hr : rankE fl k = rankE fl (k + 1) := by simp [rankE, hf0, Se.isEff]
       rw [hfr _ rfl, hrest, hr] at h2
       obtain ⟨F', f1, f2⟩ := wpSe_at vals fl i sps (k + 1) _ hv2 hfl2 hun2 h2 (by simpa using hi)
       refine ⟨F', fun w' S hF hA => f1 w' S ⟨hF, fun d hd hS => ?_⟩ fun j A d hj hs hd hS => ?_, ?_⟩
       · exact hA 0 (.rel A0) d (by omega) (by simp) (by simpa [ho] using hd) hS
       · have := hA (j + 1) A d (by omega) (by simpa using hs) (by rw [show k + (j + 1) = k + 1 + j by omega]; exact hd) hS
         rwa [show k + (j + 1) = k + 1 + j by omega] at this
       · rw [hdr, show k + (i + 1) = k + 1 + i by omega]; exact f2
     | eff E0 A0 =>
       simp only [wpSe] at h
       obtain ⟨_, _, _, h2⟩ := h
       have h2 := h2 (vals k) (fun hd => by have := hun 0 (by simp) (by simpa [ho] using hd); simpa using this)
       have hr : rankE fl k + 1 = rankE fl (k + 1) := by simp [rankE, hf0, Se.isEff]
       rw [hfr _ rfl, hrest, hr] at h2
       obtain ⟨F', f1, f2⟩ := wpSe_at vals fl i sps (k + 1) _ hv2 hfl2 hun2 h2 (by simpa using hi)
       refine ⟨F', fun w' S hF hA => f1 w' S ⟨hF, fun d hd hS => ?_⟩ fun j A d hj hs hd hS => ?_, ?_⟩
       · exact hA 0 (.eff E0 A0) d (by omega) (by simp) (by simpa [ho] using hd) hS
       · have := hA (j + 1) A d (by omega) (by simpa using hs) (by rw [show k + (j + 1) = k + 1 + j by omega]; exact hd) hS
         rwa [show k + (j + 1) = k + 1 + j by omega] at this
       · rw [hdr, show k + (i + 1) = k + 1 + i by omega]; exact f2
theorem region_eff {id : Nat} {l : List Oper} {Q : Exit → Act → World → Prop} {a : Act} {w : World} (n : Nat) (hm : P.follows .mixedOrders = true) (hB : (regB l.toArray n && Region.noSelect l.toArray && apartE l.toArray n) = true) (hN : dstsB l.toArray n a.tmps.size = true)
 (sps : List Se) (hl : sps.length = n) (hg : eAll l.toArray sps 0 sps) (hline : lineB l.toArray (sps.map Se.isEff) = true)
 (St : Nat → World → Prop) (hS0 : St 0 w) (hSm : ∀ s w1 w2, St s w1 → Own w1 w2 [] → St s w2)
 (h : wpSe P l.toArray St (fun r F a' => ∀ w', St r w' → F w' (fun _ => True) → wpList P l.toArray Q (l.drop n) a' w') 0 sps l (fun _ _ => True) a) : (Code.region id l.toArray true).wp P Q a w := by
 simp only [Bool.and_eq_true] at hB
 obtain ⟨⟨hB, hsel⟩, hap⟩ := hB
 have hN' := dstsB_spec hN
 obtain ⟨fl, hfl⟩ : ∃ fl, fl = flagsE sps := ⟨_, rfl⟩
 simp only [lineB, Bool.and_eq_true] at hline
 obtain ⟨hline, hdst⟩ := hline
 have hflE : ∀ j, j < n → (sps.map Se.isEff).getD j false = fl j := fun j hj => by
  rw [hfl]; unfold flagsE
  have hi : j < sps.length := by omega
  simp [hi]
 have hlineS : ∀ i j, i < j → j < n → fl i = true → fl j = true → waitsB l.toArray j i = true := by
  intro i j hij hj h1 h2
  simp only [List.all_eq_true, List.mem_range, Bool.or_eq_true, Bool.not_eq_true', List.length_map] at hline
  rcases hline j (by omega) i hij with h3 | h3
  · rw [hflE i (by omega), hflE j hj, h1, h2] at h3
    cases h3
  · exact h3
 have hdstS : ∀ j, j < n → l.toArray[j]?.bind (·.dst) = none → fl j = true := by
  intro j hj hd
  simp only [List.all_eq_true, List.mem_range, Bool.or_eq_true, List.length_map] at hdst
  rcases hdst j (by omega) with h3 | h3
  · rw [hd] at h3; cases h3
  · rwa [hflE j hj] at h3
 have h' : wpSe P l.toArray St (fun r F a' => ∀ w', St r w' → F w' (fun _ => True) → wpList P l.toArray Q (l.drop n) a' w') (rankE fl 0) sps (l.toArray.toList.drop 0) (fun _ _ => True) (frameAt l.toArray (fun _ => undef) a 0) := by simpa [frameAt, rankE] using h
 have hat : ∀ (vals : Nat → Value), (∀ j v, sps[j]? = some (.val v) → vals j = v) → (∀ j, j < n → l.toArray[j]?.bind (·.dst) = none → vals j = undef) → ∀ i, i ≤ n → _ := fun vals hv hu i hi =>
  wpSe_at (P := P) (ops := l.toArray) (St := St) (a := a) vals fl i sps 0 (fun _ _ => True) (fun j v hj => by rw [Nat.zero_add]; exact hv j v hj) (fun j hj => by rw [Nat.zero_add, hfl]) (fun j hjn hj => by rw [Nat.zero_add] at hj ⊢; exact hu j (by omega) hj) h' (by omega)
 let A : Nat → Asn := fun i => match sps[i]? with | some s => s.asn | none => fun _ _ => True
 let vof : Act → Nat → Value := fun a' j => match sps[j]? with | some (.val v) => v | _ => match (l.toArray[j]?).bind (·.dst) with | some d => a'.tmps.getD d undef | none => undef
 have hvof : ∀ a' j v, sps[j]? = some (.val v) → vof a' j = v := fun a' j v hj => by simp only [vof, hj]
 have hvou : ∀ a' j, j < n → l.toArray[j]?.bind (·.dst) = none → vof a' j = undef := fun a' j hj hd => by
  have h1 := hdstS j hj hd
  rw [hfl] at h1
  have hjs : j < sps.length := by omega
  simp only [flagsE, List.getElem?_eq_getElem hjs] at h1
  simp only [vof, List.getElem?_eq_getElem hjs, hd]
  cases hs : sps[j] with
  | val v => rw [hs] at h1; cases h1
  | rel A0 => rfl
  | eff E0 A0 => rfl
 have hfr : ∀ (a' : Act) (w' : World) (i s : Nat), i ≤ n → asnAt l.toArray (fun s _ v => v = a.tmps.getD s undef) A i s w' (a'.tmps.getD s undef) → a'.tmps.getD s undef = (frameAt l.toArray (vof a') a i).tmps.getD s undef := by
  intro a' w' i s hi hasn
  refine asnAt_frame' i (fun j o d hj => hN' j o d (by omega)) (fun j hj hd hA => ?_) hasn
  have hjs : j < sps.length := by omega
  simp only [A, List.getElem?_eq_getElem hjs] at hA
  simp only [vof, List.getElem?_eq_getElem hjs, hd]
  cases hs : sps[j] with
  | val v => rw [hs] at hA; exact hA
  | rel A0 => rfl
  | eff E0 A0 => rfl
 have hF : ∀ (a' : Act) (w' : World) (i : Nat) (S : Nat → Prop), i ≤ n → (∀ s, S s → asnAt l.toArray (fun s _ v => v = a.tmps.getD s undef) A i s w' (a'.tmps.getD s undef)) →
  ∀ j s d, j < i → sps[j]? = some s → l.toArray[0 + j]?.bind (·.dst) = some d → S d → s.asn w' (vof a' (0 + j)) := by
  intro a' w' i S hi hS j s d hj hs hd hSd
  rw [Nat.zero_add] at hd ⊢
  have h1 := asnAt_ofE (A := A) hap hd i hi hj (hS d hSd)
  simp only [A, hs] at h1
  cases s with
  | val v => simp only [vof, hs]; rfl
  | rel A0 => simp only [vof, hs, hd]; exact h1
  | eff E0 A0 => simp only [vof, hs, hd]; exact h1
 have hmono : ∀ k, k < n → Mono (A k) := by
  intro k hk
  have hks : k < sps.length := by omega
  obtain ⟨F', _, f2⟩ := hat (vof a) (hvof a) (hvou a) k (by omega)
  simp only [A, List.getElem?_eq_getElem hks]
  rw [List.drop_eq_getElem_cons hks] at f2
  cases hs : sps[k] with
  | val v => exact fun _ _ _ _ h => h
  | rel A0 =>
    rw [hs] at f2
    cases hd : l.toArray.toList.drop (0 + k) with
    | nil => rw [hd] at f2; exact f2.elim
    | cons o rest => rw [hd] at f2; exact f2.1
  | eff E0 A0 =>
    rw [hs] at f2
    cases hd : l.toArray.toList.drop (0 + k) with
    | nil => rw [hd] at f2; exact f2.elim
    | cons o rest => rw [hd] at f2; exact f2.1
 refine region_rel n hm hB hN' (fun listed w' => listed.size = l.toArray.size ∧ St (cntE fl listed n) w') A (by
  refine ⟨Array.size_replicate .., ?_⟩
  rw [cntE_none]
  exact hSm 0 w _ hS0 (Own.refl w).drew) ?_ ?_
 · intro i o hi ho listed a' w' hcl hwt hnl hJ hasn
   obtain ⟨hlsz, hJ⟩ := hJ
   have hlsz2 : (listed.setIfInBounds i true).size = l.toArray.size := by rw [Array.size_setIfInBounds]; exact hlsz
   have his : i < sps.length := by omega
   have hio : i < l.toArray.toList.length := by have := (Array.getElem?_eq_some_iff.1 ho).1; simpa using this
   have heq : ∀ s ∈ o.looksAt l.toArray, a'.tmps.getD s undef = (frameAt l.toArray (vof a') a i).tmps.getD s undef := fun s hs => hfr a' w' i s (by omega) (hasn s hs)
   obtain ⟨F', f1, f2⟩ := hat (vof a') (hvof a') (hvou a') i (by omega)
   have hFw := f1 w' (fun s => s ∈ o.looksAt l.toArray) trivial (hF a' w' i _ (by omega) hasn)
   have hsel' := Region.noSelect_spec hsel
   have hexec : execOp a'.eval o = execOp (frameAt l.toArray (vof a') a i).eval o := execOp_congr o (fun cs b => hsel' i o cs b ho) (fun x hx => by
    cases x with
    | tmp t => exact heq t (List.mem_append_left _ (List.mem_filterMap.2 ⟨.tmp t, by simpa using hx, rfl⟩))
    | _ => rfl)
   rw [wanted_congr heq]
   rw [Nat.zero_add, List.drop_eq_getElem_cons his, List.drop_eq_getElem_cons hio] at f2
   have hoe : l.toArray.toList[i] = o := by
    have := (Array.getElem?_eq_some_iff.1 ho).2
    simpa using this
   rw [hoe] at f2
   have hfi : fl i = sps[i].isEff := by rw [hfl]; unfold flagsE; rw [List.getElem?_eq_getElem his]
   have hcntE : sps[i].isEff = false → cntE fl (listed.setIfInBounds i true) n = cntE fl listed n := fun he => cntE_congr n fun j hj hfj => by
    rw [getD_setT, if_neg]
    rintro ⟨rfl, _⟩
    rw [hfi, he] at hfj
    cases hfj
   simp only [A, List.getElem?_eq_getElem his]
   cases hs : sps[i] with
   | val v =>
     have hcnt := hcntE (by rw [hs]; rfl)
     rw [hs] at f2
     obtain ⟨f2, _⟩ := f2
     have hq := f2 w' ⟨_, hJ⟩ hFw
     split at hq
     · rename_i hw
       rw [if_pos hw]
       unfold YieldsTo at hq ⊢
       rw [hexec]
       generalize (execOp (frameAt l.toArray (vof a') a i).eval o).run P w' = r at *
       cases r with
       | halt x w'' => exact hq.elim
       | ok nx w'' =>
         cases nx <;> simp only at hq ⊢
         case value x => exact ⟨hq.1, ⟨hlsz2, by rw [hcnt]; exact hSm _ _ _ hJ hq.2⟩, fun k hk _ _ v h => hmono k hk _ _ _ hq.2 h⟩
         case skip => exact ⟨hq.1, ⟨hlsz2, by rw [hcnt]; exact hSm _ _ _ hJ hq.2⟩, fun k hk _ _ v h => hmono k hk _ _ _ hq.2 h⟩
         case enter f args => exact hq.mono fun e w3 ⟨u, he, h1, h2⟩ => ⟨u, he, h1, ⟨hlsz2, by rw [hcnt]; exact hSm _ _ _ hJ h2⟩, fun k hk _ _ v h => hmono k hk _ _ _ h2 h⟩
     · rename_i hw
       rw [if_neg hw]
       exact ⟨hq, hlsz2, by rw [hcnt]; exact hJ⟩
   | rel A0 =>
     have hcnt := hcntE (by rw [hs]; rfl)
     rw [hs] at f2
     obtain ⟨_, hw, f3, _⟩ := f2
     rw [if_pos hw]
     have hy := f3 w' ⟨_, hJ⟩ hFw
     unfold YieldsTo at hy ⊢
     rw [hexec]
     generalize (execOp (frameAt l.toArray (vof a') a i).eval o).run P w' = r at *
     cases r with
     | halt x w'' => exact hy.elim
     | ok nx w'' =>
       cases nx <;> simp only at hy ⊢
       case value x => exact ⟨hy.2, ⟨hlsz2, by rw [hcnt]; exact hSm _ _ _ hJ hy.1⟩, fun k hk _ _ v h => hmono k hk _ _ _ hy.1 h⟩
       case skip => exact ⟨hy.2, ⟨hlsz2, by rw [hcnt]; exact hSm _ _ _ hJ hy.1⟩, fun k hk _ _ v h => hmono k hk _ _ _ hy.1 h⟩
       case enter f args => exact hy.mono fun e w3 ⟨v, he, h1, h2⟩ => ⟨v, he, h2, ⟨hlsz2, by rw [hcnt]; exact hSm _ _ _ hJ h1⟩, fun k hk _ _ v h => hmono k hk _ _ _ h1 h⟩
   | eff E0 A0 =>
     have hfi1 : fl i = true := by rw [hfi, hs]; rfl
     have hunder : ∀ j, j < i → fl j = true → listed.getD j false = true := fun j hj hfj => hwt j (hlineS j i hj hi hfj hfi1)
     have hover : ∀ j, i ≤ j → j < n → fl j = true → listed.getD j false = false := fun j hij hj hfj => by
      by_cases e : j = i
      · subst e; exact hnl
      · cases hlj : listed.getD j false with
        | false => rfl
        | true =>
          have := hcl j i (hlineS i j (by omega) hj hfi1 hfj) hlj
          rw [hnl] at this
          cases this
     have hc0 : cntE fl listed n = rankE fl i := by rw [cntE_post n (by omega) hover, cntE_pre i hunder]
     have hisz : i < listed.size := by rw [hlsz]; simpa using hio
     have hc1 : cntE fl (listed.setIfInBounds i true) n = rankE fl i + 1 := by
      have e1 : ∀ j, j < i + 1 → fl j = true → (listed.setIfInBounds i true).getD j false = true := fun j hj hfj => by
       rw [getD_setT]
       split
       · rfl
       · rename_i hne
         exact hunder j (by have : j ≠ i := fun e => hne ⟨e.symm, hisz⟩; omega) hfj
      have e2 : ∀ j, i + 1 ≤ j → j < n → fl j = true → (listed.setIfInBounds i true).getD j false = false := fun j hij hj hfj => by
       rw [getD_setT, if_neg (fun h => by omega)]
       exact hover j (by omega) hj hfj
      rw [cntE_post n (by omega) e2, cntE_pre (i + 1) e1]
      simp [rankE, hfi1]
     rw [hs] at f2
     rw [hc0] at hJ
     obtain ⟨_, hw, f3, _⟩ := f2
     rw [if_pos hw]
     have hy := f3 w' hJ hFw
     have hpres : ∀ w'', E0 w' w'' → ∀ k, k < n → k ≠ i → listed.getD k false = true → ∀ v, A k w' v → A k w'' v := by
      intro w'' hgr k hk hki hlk v hv
      have hks : k < sps.length := by omega
      have hrow := eAll_at sps 0 hg i E0 A0 (by rw [List.getElem?_eq_getElem his, hs])
      rw [Nat.zero_add] at hrow
      have h3 := eRow_at sps 0 hrow k sps[k] (List.getElem?_eq_getElem hks)
      rw [Nat.zero_add] at h3
      simp only [A, List.getElem?_eq_getElem hks] at hv ⊢
      rcases h3 with h3 | h3 | h3
      · exact absurd h3 hki
      · have := hcl k i h3 hlk
        rw [hnl] at this
        cases this
      · cases hsk : sps[k] with
        | val v0 => rw [hsk] at hv; exact hv
        | rel A1 => rw [hsk] at hv h3; exact h3 w' w'' v hgr hv
        | eff E1 A1 => rw [hsk] at hv h3; exact h3 w' w'' v hgr hv
     unfold YieldsTo at hy ⊢
     rw [hexec]
     generalize (execOp (frameAt l.toArray (vof a') a i).eval o).run P w' = r at *
     cases r with
     | halt x w'' => exact hy.elim
     | ok nx w'' =>
       cases nx <;> simp only at hy ⊢
       case value x => exact ⟨hy.2.2.1, ⟨hlsz2, by rw [hc1]; exact hy.2.1⟩, hpres _ hy.1⟩
       case skip => exact ⟨hy.2.2.1, ⟨hlsz2, by rw [hc1]; exact hy.2.1⟩, hpres _ hy.1⟩
       case enter f args => exact hy.mono fun e w3 ⟨v, he, h1, h2, h3, _⟩ => ⟨v, he, h3, ⟨hlsz2, by rw [hc1]; exact h2⟩, hpres _ h1⟩
 · intro listed a' w' hall hJ hsz hd hasn
   obtain ⟨_, hJ⟩ := hJ
   rw [cntE_all n hall] at hJ
   have : a' = frameAt l.toArray (vof a') a n := by
    have h1 := frameAt_size (ops := l.toArray) (vals := vof a') (a := a) n
    have h2 := frameAt_defers (ops := l.toArray) (vals := vof a') (a := a) n
    have h3 : a'.tmps = (frameAt l.toArray (vof a') a n).tmps := by
     apply Array.ext
     · omega
     · intro j hj1 hj2
       have := hfr a' w' n j (Nat.le_refl _) (hasn j)
       simpa [hj1, hj2] using this
    generalize frameAt l.toArray (vof a') a n = fr at h2 h3
    obtain ⟨t1, d1⟩ := a'
    obtain ⟨t3, d3⟩ := fr
    simp only at h2 h3 hd
    rw [h3, hd, h2]
   obtain ⟨F', f1, f2⟩ := hat (vof a') (hvof a') (hvou a') n (Nat.le_refl _)
   have hFw := f1 w' (fun _ => True) trivial (hF a' w' n _ (Nat.le_refl _) (fun s _ => hasn s))
   have hd0 : sps.drop n = [] := List.drop_of_length_le (by omega)
   rw [hd0] at f2
   simp only [wpSe] at f2
   rw [Nat.zero_add, ← this] at f2
   simpa using f2 w' hJ hFw
variable {St : Nat → World → Prop} {K : Nat → (World → (Nat → Prop) → Prop) → Act → Prop} {r : Nat} {sps : List Se} {o : Oper} {rest : List Oper} {F : World → (Nat → Prop) → Prop} {a : Act} {v : Value}
theorem se_val (h1 : ∀ w', (∃ s, St s w') → F w' (fun s => s ∈ o.looksAt ops) → wpQuiet P ops (fun w'' => w'' = w') (fun a' => a' = a.put o.dst v) [o] a) (hd : ∃ d, o.dst = some d ∧ d < a.tmps.size)
 (h2 : wpSe P ops St K r sps rest F (a.put o.dst v)) : wpSe P ops St K r (.val v :: sps) (o :: rest) F a := by
 refine ⟨fun w' hw' hF => ?_, h2⟩
 obtain ⟨d, hd1, hd2⟩ := hd
 have hput : ∀ u, a.put o.dst u = a.put o.dst v → u = v := by
  intro u hu
  have := congrArg (fun x : Act => x.tmps[d]?) hu
  simpa [Act.put, hd1, hd2] using this
 have hq := h1 w' hw' hF
 unfold wpQuiet at hq
 split at hq
 · rename_i hw
   rw [if_pos hw]
   obtain ⟨u, hu1, hu2⟩ := hq
   obtain rfl := hput u hu2
   have hq' := hu1 w' rfl
   unfold Oper.quietAt at hq'
   unfold YieldsTo
   generalize (execOp a.eval o).run P w' = r at *
   cases r with
   | halt x w'' => exact hq'.elim
   | ok nx w'' =>
     cases nx <;> simp only [Oper.quietUpon] at hq' ⊢
     case value x => obtain ⟨rfl, rfl⟩ := hq'; exact ⟨rfl, Own.refl _⟩
     case skip => obtain ⟨rfl, hv⟩ := hq'; exact ⟨hv.symm, Own.refl _⟩
     case enter f args =>
      obtain ⟨rfl, hc⟩ := hq'
      exact hc.mono fun e w3 ⟨he, hc3⟩ => ⟨_, he, rfl, by rw [hc3]; exact Own.refl _⟩
 · rename_i hw
   rw [if_neg hw]
   exact hput _ hq
theorem se_run (hw : Region.wanted o (yielded ops a.tmps) = true) (hrun : ∀ w', (∃ s, St s w') → F w' (fun s => s ∈ o.looksAt ops) → (execOp a.eval o).run P w' = .ok (.value v) w')
 (h2 : wpSe P ops St K r sps rest F (a.put o.dst v)) : wpSe P ops St K r (.val v :: sps) (o :: rest) F a := by
 refine ⟨fun w' hw' hF => ?_, h2⟩
 rw [if_pos hw]
 exact yieldsTo_val (hrun w' hw' hF) ⟨rfl, Own.refl _⟩
theorem se_callN (hw : Region.wanted o (yielded ops a.tmps) = true) {f : Nat} {fn : Func} {xs : Array Operand} {ats : Array TypeId} {args : Array Value} (hop : o.op = .call { callee := .value (.func f), args := xs, argTypes := ats }) (hargs : xs.map a.eval = args)
 (hf : P.funcs[f]? = some fn) (hname : (fn.name == "runtime.NumGoroutine") = false) (hb : fn.body.isNone = false)
 (h1 : ∀ w', (∃ s, St s w') → F w' (fun s => s ∈ o.looksAt ops) → Calls P f args w' fun e w'' => e = .returned v ∧ Own w' w'' [])
 (h2 : wpSe P ops St K r sps rest F (a.put o.dst v)) : wpSe P ops St K r (.val v :: sps) (o :: rest) F a := by
 refine ⟨fun w' hw' hF => ?_, h2⟩
 rw [if_pos hw]
 unfold YieldsTo
 rw [Conc.run_call_body hop hf hname hb, hargs]
 exact (h1 w' hw' hF).mono fun e w'' ⟨he, h⟩ => ⟨_, he, rfl, h⟩
theorem se_callR {A : World → Value → Prop} (hm : Mono A) (hw : Region.wanted o (yielded ops a.tmps) = true) {f : Nat} {fn : Func} {xs : Array Operand} {ats : Array TypeId} {args : Array Value} (hop : o.op = .call { callee := .value (.func f), args := xs, argTypes := ats }) (hargs : xs.map a.eval = args)
 (hf : P.funcs[f]? = some fn) (hname : (fn.name == "runtime.NumGoroutine") = false) (hb : fn.body.isNone = false)
 (h1 : ∀ w', (∃ s, St s w') → F w' (fun s => s ∈ o.looksAt ops) → Calls P f args w' fun e w'' => ∃ r, e = .returned r ∧ A w'' r ∧ Own w' w'' [])
 (h2 : ∀ v, wpSe P ops St K r sps rest (fun w' S => F w' S ∧ ∀ d, o.dst = some d → S d → A w' v) (a.put o.dst v)) : wpSe P ops St K r (.rel A :: sps) (o :: rest) F a := by
 refine ⟨hm, hw, fun w' hw' hF => ?_, h2⟩
 unfold YieldsTo
 rw [Conc.run_call_body hop hf hname hb, hargs]
 exact (h1 w' hw' hF).mono fun e w'' ⟨r, he, hA, ho⟩ => ⟨r, he, ho, hA⟩
theorem se_callE {E : World → World → Prop} {A : World → Value → Prop} (hm : Mono A) (hw : Region.wanted o (yielded ops a.tmps) = true) (hds : o.dst.isSome = true) {f : Nat} {fn : Func} {xs : Array Operand} {ats : Array TypeId} {args : Array Value} (hop : o.op = .call { callee := .value (.func f), args := xs, argTypes := ats }) (hargs : xs.map a.eval = args)
 (hf : P.funcs[f]? = some fn) (hname : (fn.name == "runtime.NumGoroutine") = false) (hb : fn.body.isNone = false)
 (h1 : ∀ w', St r w' → F w' (fun s => s ∈ o.looksAt ops) → Calls P f args w' fun e w'' => ∃ v, e = .returned v ∧ A w'' v ∧ E w' w'' ∧ St (r + 1) w'')
 (h2 : ∀ v, wpSe P ops St K (r + 1) sps rest (fun w' S => F w' S ∧ ∀ d, o.dst = some d → S d → A w' v) (a.put o.dst v)) : wpSe P ops St K r (.eff E A :: sps) (o :: rest) F a := by
 have hne : o.dst = none → False := fun h => by rw [h] at hds; cases hds
 refine ⟨hm, hw, fun w' hw' hF => ?_, fun v _ => h2 v⟩
 unfold YieldsTo
 rw [Conc.run_call_body hop hf hname hb, hargs]
 exact (h1 w' hw' hF).mono fun e w'' ⟨r, he, hA, hE, hS⟩ => ⟨r, he, hE, hS, hA, fun h => (hne h).elim⟩
theorem se_rel {A : World → Value → Prop} (hm : Mono A) (hw : Region.wanted o (yielded ops a.tmps) = true) (h1 : ∀ w', (∃ s, St s w') → F w' (fun s => s ∈ o.looksAt ops) → YieldsTo P o a w' (fun v w'' => Own w' w'' [] ∧ A w'' v))
 (h2 : ∀ v, wpSe P ops St K r sps rest (fun w' S => F w' S ∧ ∀ d, o.dst = some d → S d → A w' v) (a.put o.dst v)) : wpSe P ops St K r (.rel A :: sps) (o :: rest) F a := ⟨hm, hw, h1, h2⟩
theorem se_store {E : World → World → Prop} (hd : o.dst = none) (hg : o.guard = none) (h1 : ∀ w', St r w' → F w' (fun s => s ∈ o.looksAt ops) → ∃ w'', (execOp a.eval o).run P w' = .ok .skip w'' ∧ E w' w'' ∧ St (r + 1) w'')
 (h2 : wpSe P ops St K (r + 1) sps rest (fun w' S => F w' S ∧ ∀ d, o.dst = some d → S d → True) a) : wpSe P ops St K r (.eff E (fun _ _ => True) :: sps) (o :: rest) F a := by
 refine ⟨fun _ _ _ _ _ => trivial, by simp [Region.wanted, hg], fun w' hw' hF => ?_, fun v hv => ?_⟩
 · obtain ⟨w'', hr, hE, hS⟩ := h1 w' hw' hF
   unfold YieldsTo
   rw [hr]
   exact ⟨hE, hS, trivial, fun _ => rfl⟩
 · have : a.put o.dst v = a := by rw [hd]; rfl
   rw [this]
   exact h2
theorem se_nil (h : K r F a) {l : List Oper} : wpSe P ops St K r [] l F a := by
 cases l <;> exact h
end
end Go.Proofs.YtfihlmnbonnekaaGreat
namespace Go.Proofs.YtfihlmnbonnekaaGreat
open Go.RowKit
section
variable {ops : Array Oper} {n : Nat}
theorem region_relF {P : Program} {id : Nat} {Q : Exit → Act → World → Prop} {a : Act} {w : World} (n : Nat) (hm : P.follows .mixedOrders = true) (hB : regB ops n = true)
 (hN : ∀ i o d, i < n → ops[i]? = some o → o.dst = some d → d < a.tmps.size)
 (J : Array Bool → Act → World → Prop) (A : Nat → Asn)
 (hJ : J (Array.replicate ops.size false) a { w with drawn := w.drawn + 1 })
 (hop : ∀ i o, i < n → ops[i]? = some o → ∀ (listed : Array Bool) (a' : Act) (w' : World), closedL ops listed → (∀ k, waitsB ops i k = true → listed.getD k false = true) → listed.getD i false = false → J listed a' w' →
   (∀ s ∈ o.looksAt ops, asnAt ops (fun s _ v => v = a.tmps.getD s undef) A i s w' (a'.tmps.getD s undef)) →
   if Region.wanted o (yielded ops a'.tmps) then YieldsTo P o a' w' (fun v w'' => A i w'' v ∧ J (listed.setIfInBounds i true) (a'.put o.dst v) w'' ∧ ∀ k, k < n → k ≠ i → listed.getD k false = true → ∀ v, A k w' v → A k w'' v) else A i w' undef ∧ J (listed.setIfInBounds i true) (a'.put o.dst undef) w')
 (hend : ∀ (listed : Array Bool) (a' : Act) (w' : World), (∀ k, k < n → listed.getD k false = true) → J listed a' w' → a'.tmps.size = a.tmps.size → a'.defers = a.defers →
   (∀ s, asnAt ops (fun s _ v => v = a.tmps.getD s undef) A n s w' (a'.tmps.getD s undef)) → wpList P ops Q (ops.toList.drop n) a' w') :
 (Code.region id ops true).wp P Q a w := by
 simp only [regB, Bool.and_eq_true, List.all_eq_true, List.mem_range, Bool.or_eq_true, Bool.not_eq_true', List.any_eq_true, decide_eq_true_eq] at hB
 obtain ⟨⟨⟨⟨hsep, hsink⟩, hchain⟩, hback⟩, hn⟩ := hB
 have hbk : ∀ j i, waitsB ops j i = true → i < j := fun j i h => by
  obtain ⟨o, ho, e, he, hb, rfl⟩ := waitsB_spec h
  have h1 := hback j (Array.getElem?_eq_some_iff.1 ho).1
  rw [ho] at h1
  have h2 := (Array.all_eq_true_iff_forall_mem.1 h1) e he
  simpa [hb] using h2
 let F0 : Nat → Asn := fun s _ v => v = a.tmps.getD s undef
 let I1 : Array Bool → Act → World → Prop := fun listed a' w' =>
  (∀ t, n ≤ t → listed.getD t false = false) ∧ J listed a' w' ∧ a'.tmps.size = a.tmps.size ∧ a'.defers = a.defers ∧ ∀ s, asnOf ops F0 A listed n s w' (a'.tmps.getD s undef)
 let I2 : Array Bool → Act → World → Prop := fun listed a' w' =>
  ∃ t, n ≤ t ∧ t ≤ ops.size ∧ (∀ k, k < t → listed.getD k false = true) ∧ (∀ k, t ≤ k → listed.getD k false = false) ∧ wpList P ops Q (ops.toList.drop t) a' w'
 let I : Array Bool → Act → World → Prop := fun listed a' w' => listed.size = ops.size ∧ closedL ops listed ∧ (I1 listed a' w' ∨ I2 listed a' w')
 have hlist : ∀ (listed : Array Bool) i o, listed.size = ops.size → closedL ops listed → i ∈ Region.ready .any ops listed → ops[i]? = some o →
  (listed.setIfInBounds i true).size = ops.size ∧ closedL ops (listed.setIfInBounds i true) ∧ (∀ k, waitsB ops i k = true → listed.getD k false = true) := by
  intro listed i o hs hc hi ho
  obtain ⟨hun, o', ho', hall⟩ := mem_ready.1 hi
  have hw : ∀ k, waitsB ops i k = true → listed.getD k false = true := fun k hk => by
   obtain ⟨o2, ho2, e, he, hb, hon⟩ := waitsB_spec hk
   have : o2 = o' := Option.some.inj (ho2.symm.trans ho')
   subst this
   rw [← hon]; exact hall e he hb
  refine ⟨by simpa using hs, ?_, hw⟩
  intro j k hjk hj
  rw [getD_setT] at hj ⊢
  split
  · rfl
  · split at hj
    · rename_i h1; rw [← h1.1] at hjk; exact hw k hjk
    · exact hc j k hjk hj
 have to2 : ∀ listed a' w', (∀ k, k < n → listed.getD k false = true) → I1 listed a' w' → I2 listed a' w' := by
  intro listed a' w' hall ⟨h1, h2, h3, h4, h5⟩
  refine ⟨n, Nat.le_refl _, hn, hall, h1, hend listed a' w' hall h2 h3 h4 (fun s => ?_)⟩
  have := h5 s
  rwa [asnOf_full n (fun j hj _ => hall j hj)] at this
 have hstep : ∀ listed a' w', I listed a' w' → ∀ i, i ∈ Region.ready .any ops listed → wpOp P ops Q i (I (listed.setIfInBounds i true)) a' w' := by
  intro listed a' w' ⟨hs, hc, hI⟩ i hi
  obtain ⟨hun, o, ho, hall⟩ := mem_ready.1 hi
  obtain ⟨hs', hc', hw⟩ := hlist listed i o hs hc hi ho
  have hilt : i < ops.size := (Array.getElem?_eq_some_iff.1 ho).1
  have hunf := getD_ff hun
  have key : (i < n ∧ I1 listed a' w') ∨ I2 listed a' w' := by
   rcases hI with h1 | h2
   · by_cases hin : i < n
     · exact Or.inl ⟨hin, h1⟩
     · right
       refine to2 _ _ _ (fun k hk => ?_) h1
       have hi_n : i = n := by
        by_cases e : i = n
        · exact e
        · have h3 := hchain i hilt
          rcases h3 with h3 | h3
          · omega
          · have h4 := hw _ h3
            rw [h1.1 (i - 1) (by omega)] at h4; cases h4
       subst hi_n
       have hall2 : ∀ d k, i - k = d → k < i → listed.getD k false = true := by
        intro d
        induction d using Nat.strongRecOn with
        | _ d ih =>
          intro k hd hk
          rcases hsink k hk with h3 | ⟨j, hj, hj2⟩
          · omega
          · by_cases e : j = i
            · subst e; exact hw k hj2.2
            · exact hc j k hj2.2 (ih (i - j) (by omega) j rfl (by omega))
       exact hall2 _ k rfl hk
   · exact Or.inr h2
  unfold wpOp
  simp only [ho]
  rcases key with ⟨hin, h1, h2, h3, h4, h5⟩ | ⟨t, ht1, ht2, ht3, ht4, ht5⟩
  ·
   have hasn : ∀ s ∈ o.looksAt ops, asnAt ops F0 A i s w' (a'.tmps.getD s undef) := by
    intro s hsl
    have h6 := h5 s
    have e1 : asnOf ops F0 A listed n s = asnOf ops F0 A listed i s := asnOf_later n (by omega) (fun j h7 h8 hd => by
     cases hlj : listed.getD j false with
     | false => rfl
     | true =>
       by_cases e : j = i
       · subst e; rw [hunf] at hlj; cases hlj
       · have h9 := hsep j h8 i (by omega)
         cases hoj : ops[j]? with
         | none => simp [hoj] at hd
         | some oj =>
           simp only [hoj, Option.bind_some] at hd
           have hcl : clashB ops i j = true := by
            unfold clashB
            simp only [ho, hoj, hd]
            simp [hsl]
           rw [hcl] at h9
           rcases h9 with h9 | h9
           · cases h9
           · have := hc j i h9 hlj
             rw [hunf] at this; cases this)
    have e2 : asnOf ops F0 A listed i s = asnAt ops F0 A i s := asnOf_full i (fun j h7 hd => by
     have h9 := hsep i hin j h7
     cases hoj : ops[j]? with
     | none => simp [hoj] at hd
     | some oj =>
       simp only [hoj, Option.bind_some] at hd
       have hcl : clashB ops j i = true := by
        unfold clashB
        simp only [ho, hoj, hd]
        simp [hsl]
       rw [hcl] at h9
       rcases h9 with h9 | h9
       · cases h9
       · exact hw j h9)
    rw [e1, e2] at h6
    exact h6
   have hmain := hop i o hin ho listed a' w' hc hw hunf h2 hasn
   have hnext : ∀ v w'', A i w'' v → J (listed.setIfInBounds i true) (a'.put o.dst v) w'' → (∀ k, k < n → k ≠ i → listed.getD k false = true → ∀ v, A k w' v → A k w'' v) → I (listed.setIfInBounds i true) (a'.put o.dst v) w'' := by
    intro v w'' hv hJ' hk
    refine ⟨hs', hc', Or.inl ⟨fun t ht => ?_, hJ', ?_, ?_, fun s => ?_⟩⟩
    · rw [getD_setT, if_neg (by omega)]; exact h1 t ht
    · cases hd : o.dst with
      | none => simp [Act.put, h3]
      | some d => simp [Act.put, h3]
    · cases hd : o.dst with
      | none => simp [Act.put, h4]
      | some d => simp [Act.put, h4]
    · have hcarry : asnOf ops F0 A listed n s w'' (a'.tmps.getD s undef) := by
       refine asnOf_mono (w := w') (w' := w'') (fun _ h => h) n (fun k hk1 hk2 => hk k hk1 (fun e => ?_) hk2) (h5 s)
       subst e; rw [hunf] at hk2; cases hk2
      by_cases hds : o.dst = some s
      ·
       have hsz := hN i o s hin ho hds
       have hget : (a'.put o.dst v).tmps.getD s undef = v := by
        rw [hds]; simp [Act.put, h3, hsz]
       rw [hget]
       have e1 : asnOf ops F0 A (listed.setIfInBounds i true) n s = asnOf ops F0 A (listed.setIfInBounds i true) (i + 1) s := asnOf_later n (by omega) (fun j h7 h8 hd => by
        rw [getD_setT, if_neg (by omega)]
        cases hlj : listed.getD j false with
        | false => rfl
        | true =>
          have h9 := hsep j h8 i (by omega)
          cases hoj : ops[j]? with
          | none => simp [hoj] at hd
          | some oj =>
            simp only [hoj, Option.bind_some] at hd
            have hcl : clashB ops i j = true := by
             unfold clashB
             simp only [ho, hoj, hd, hds]
             simp
            rw [hcl] at h9
            rcases h9 with h9 | h9
            · cases h9
            · have := hc j i h9 hlj
              rw [hunf] at this; cases this)
       rw [e1]
       simp only [asnOf]
       rw [if_pos ⟨by rw [getD_setT, if_pos ⟨rfl, by omega⟩], by rw [ho]; exact hds⟩]
       exact hv
      · have hget : (a'.put o.dst v).tmps.getD s undef = a'.tmps.getD s undef := by
         cases hd : o.dst with
         | none => rfl
         | some d =>
           have hne : d ≠ s := fun e => hds (by rw [hd, e])
           simp [Act.put, Array.getElem?_setIfInBounds_ne hne]
        rw [hget]
        have e1 : asnOf ops F0 A (listed.setIfInBounds i true) n s = asnOf ops F0 A listed n s := asnOf_congr n (fun j h7 hd => by
         rw [getD_setT, if_neg]
         rintro ⟨rfl, _⟩
         rw [ho] at hd; exact hds hd)
        rw [e1]; exact hcarry
   split
   · rename_i hwt
     rw [if_pos hwt] at hmain
     exact Or.inl (hmain.wp fun v w'' ⟨hv, hJ', hk⟩ => hnext v w'' hv hJ' hk)
   · rename_i hwt
     rw [if_neg hwt] at hmain
     exact hnext undef w' hmain.1 hmain.2 (fun _ _ _ _ _ h => h)
  ·
   have hit : i = t := by
    have h6 : t ≤ i := by
     rcases Nat.lt_or_ge i t with h | h
     · have := ht3 i h; rw [hunf] at this; cases this
     · exact h
    by_cases e : i = t
    · exact e
    · rcases hchain i hilt with h7 | h7
      · omega
      · have := hw _ h7
        rw [ht4 (i - 1) (by omega)] at this; cases this
   subst hit
   have hdrop : ops.toList.drop i = o :: ops.toList.drop (i + 1) := by
    rw [List.drop_eq_getElem_cons (by simpa using hilt)]
    congr 1
    have := (Array.getElem?_eq_some_iff.1 ho).2
    simpa using this
   rw [hdrop] at ht5
   have hnext : ∀ a'' w'', wpList P ops Q (ops.toList.drop (i + 1)) a'' w'' → I (listed.setIfInBounds i true) a'' w'' := by
    intro a'' w'' h
    refine ⟨hs', hc', Or.inr ⟨i + 1, by omega, by omega, fun k hk => ?_, fun k hk => ?_, h⟩⟩
    · rw [getD_setT]
      split
      · rfl
      · rename_i h6
        exact ht3 k (by
         by_cases e : i = k
         · exact absurd ⟨e, by omega⟩ h6
         · omega)
    · rw [getD_setT, if_neg (by omega)]; exact ht4 k (by omega)
   unfold wpList at ht5
   split
   · rename_i hwt
     rw [if_pos hwt] at ht5
     rcases ht5 with h | h
     · exact Or.inl (Oper.wp_mono (fun a w h => hnext a w h) h)
     · exact Or.inr h
   · rename_i hwt
     rw [if_neg hwt] at ht5
     exact hnext _ _ ht5
 have hdone : ∀ listed a' w', I listed a' w' → Region.ready .any ops listed = [] → Q .normal a' w' := by
  intro listed a' w' ⟨hs, hc, hI⟩ hr
  have hallD : ∀ k, k < ops.size → listed.getD k false = true := by
   intro k
   induction k using Nat.strongRecOn with
   | _ k ih =>
     intro hk
     cases hl : listed.getD k false with
     | true => rfl
     | false =>
       have hmem : k ∈ Region.ready .any ops listed := by
        refine mem_ready.2 ⟨by simpa [hs, hk] using hl, ops[k], by simp [hk], fun e he hb => ?_⟩
        have hwk : waitsB ops k e.on = true := by
         unfold waitsB
         simp only [Array.getElem?_eq_getElem hk]
         exact Array.any_eq_true'.2 ⟨e, he, by simp [hb]⟩
        have := hbk k e.on hwk
        exact ih e.on this (by omega)
       rw [hr] at hmem; cases hmem
  have h2 : I2 listed a' w' := by
   rcases hI with h1 | h2
   · exact to2 _ _ _ (fun k hk => hallD k (by omega)) h1
   · exact h2
  obtain ⟨t, ht1, ht2, ht3, ht4, ht5⟩ := h2
  have : t = ops.size := by
   rcases Nat.lt_or_ge t ops.size with h | h
   · have := hallD t h; rw [ht4 t (Nat.le_refl _)] at this; cases this
   · omega
  subst this
  rw [List.drop_of_length_le (by simp)] at ht5
  exact ht5
 refine wp_region_any hm ?_
 have hwalk : ∀ fuel (listed : Array Bool) a' w', ((List.range ops.size).filter fun i => !listed.getD i true).length ≤ fuel → I listed a' w' → wpAny P .any ops Q fuel listed a' w' := by
  intro fuel
  induction fuel with
  | zero =>
    intro listed a' w' hf hI
    have hr : Region.ready .any ops listed = [] := by
     rw [List.eq_nil_iff_forall_not_mem]
     intro i hi
     have hm' : i ∈ (List.range ops.size).filter fun i => !listed.getD i true := by
      obtain ⟨hun, o, ho, _⟩ := mem_ready.1 hi
      exact List.mem_filter.2 ⟨List.mem_range.2 (Array.getElem?_eq_some_iff.1 ho).1, by rw [hun]; rfl⟩
     have := List.length_pos_of_mem hm'
     omega
    exact ⟨hr, hdone _ _ _ hI hr⟩
  | succ fuel ih =>
    intro listed a' w' hf hI
    refine ⟨hdone _ _ _ hI, fun i hi => ?_⟩
    refine wpOp_mono (fun a'' w'' h => ih _ a'' w'' ?_ h) (hstep _ _ _ hI i hi)
    obtain ⟨hun, o, ho, _⟩ := mem_ready.1 hi
    have hilt : i < ops.size := (Array.getElem?_eq_some_iff.1 ho).1
    have hm' : i ∈ (List.range ops.size).filter fun i => !listed.getD i true := List.mem_filter.2 ⟨List.mem_range.2 hilt, by rw [hun]; rfl⟩
    have hsub : ((List.range ops.size).filter fun j => !(listed.setIfInBounds i true).getD j true).length < ((List.range ops.size).filter fun j => !listed.getD j true).length := by
     have h1 : ((List.range ops.size).filter fun j => !(listed.setIfInBounds i true).getD j true) = ((List.range ops.size).filter fun j => !listed.getD j true).filter (fun j => j != i) := by
      rw [List.filter_filter]
      apply List.filter_congr
      intro j _
      rw [getD_setT]
      by_cases e : i = j
      · subst e
        by_cases hl : i < listed.size
        · simp [hl]
        · simp [hl]
      · have e' : (j != i) = true := by simp; omega
        simp [e, e']
     rw [h1]
     exact List.length_filter_lt_length_iff_exists.2 ⟨i, hm', by simp⟩
    omega
 refine hwalk ops.size _ a _ ?_ ⟨by simp, fun j i h hj => ?_, Or.inl ⟨fun t _ => ?_, hJ, rfl, rfl, fun s => ?_⟩⟩
 · exact Nat.le_trans (List.length_filter_le _ _) (by simp)
 · exfalso
   rw [getD_replicate_false'] at hj; cases hj
 · exact getD_replicate_false' _ _
 · have : ∀ k, asnOf ops F0 A (Array.replicate ops.size false) k s = F0 s := by
    intro k
    induction k with
    | zero => rfl
    | succ k ih =>
      simp only [asnOf]
      rw [if_neg (fun h => by rw [getD_replicate_false'] at h; cases h.1), ih]
   rw [this]
end
end Go.Proofs.YtfihlmnbonnekaaGreat
namespace Go.Proofs.YtfihlmnbonnekaaGreat
open Go.RowKit
theorem cntE_le {fl : Nat → Bool} {listed : Array Bool} : ∀ k, cntE fl listed k ≤ rankE fl k
 | 0 => Nat.le_refl _
 | k + 1 => by
   have := cntE_le (fl := fl) (listed := listed) k
   simp only [cntE, rankE]
   cases fl k <;> cases listed.getD k false <;> simp <;> omega
def wpSeF (P : Program) (ops : Array Oper) (St : Nat → Act → World → Prop) (K : Nat → (World → (Nat → Prop) → Prop) → Act → Prop) : Nat → List Se → List Oper → (World → (Nat → Prop) → Prop) → Act → Prop
 | r, [], _, F, a => K r F a
 | r, .val v :: sps, o :: rest, F, a => (∀ w', (∃ s a', St s a' w') → F w' (fun s => s ∈ o.looksAt ops) → if Region.wanted o (yielded ops a.tmps) then YieldsTo P o a w' (fun v' w'' => v' = v ∧ Own w' w'' []) else undef = v) ∧ wpSeF P ops St K r sps rest F (a.put o.dst v)
 | r, .rel A :: sps, o :: rest, F, a => Mono A ∧ Region.wanted o (yielded ops a.tmps) = true ∧ (∀ w', (∃ s a', St s a' w') → F w' (fun s => s ∈ o.looksAt ops) → YieldsTo P o a w' (fun v w'' => Own w' w'' [] ∧ A w'' v)) ∧
    ∀ v, wpSeF P ops St K r sps rest (fun w' S => F w' S ∧ ∀ d, o.dst = some d → S d → A w' v) (a.put o.dst v)
 | r, .eff E A :: sps, o :: rest, F, a => Mono A ∧ Region.wanted o (yielded ops a.tmps) = true ∧ (∀ a' w', (∀ s ∈ o.looksAt ops, a'.tmps.getD s undef = a.tmps.getD s undef) → St r a' w' → F w' (fun s => s ∈ o.looksAt ops) → YieldsTo P o a w' (fun v w'' => E w' w'' ∧ St (r + 1) (a'.put o.dst v) w'' ∧ A w'' v ∧ (o.dst = none → v = undef))) ∧
    ∀ v, (o.dst = none → v = undef) → wpSeF P ops St K (r + 1) sps rest (fun w' S => F w' S ∧ ∀ d, o.dst = some d → S d → A w' v) (a.put o.dst v)
 | _, _ :: _, [], _, _ => False
section
variable {P : Program} {ops : Array Oper}
theorem wpSeF_at {St : Nat → Act → World → Prop} {K : Nat → (World → (Nat → Prop) → Prop) → Act → Prop} {a : Act} (vals : Nat → Value) (fl : Nat → Bool) : ∀ (i : Nat) (sps : List Se) (k : Nat) (F : World → (Nat → Prop) → Prop), (∀ j v, sps[j]? = some (.val v) → vals (k + j) = v) →
 (∀ j, j < sps.length → fl (k + j) = flagsE sps j) → (∀ j, j < sps.length → ops[k + j]?.bind (·.dst) = none → vals (k + j) = undef) →
 wpSeF P ops St K (rankE fl k) sps (ops.toList.drop k) F (frameAt ops vals a k) → i ≤ sps.length →
 ∃ F', (∀ w' S, F w' S → (∀ j s d, j < i → sps[j]? = some s → ops[k + j]?.bind (·.dst) = some d → S d → s.asn w' (vals (k + j))) → F' w' S) ∧
  wpSeF P ops St K (rankE fl (k + i)) (sps.drop i) (ops.toList.drop (k + i)) F' (frameAt ops vals a (k + i))
 | 0, sps, k, F, _, _, _, h, _ => ⟨F, fun _ _ h _ => h, by simpa using h⟩
 | i + 1, [], k, F, _, _, _, _, hi => by simp at hi
 | i + 1, s :: sps, k, F, hv, hfl, hun, h, hi => by
   cases hl : ops.toList.drop k with
   | nil => rw [hl] at h; cases s <;> exact h.elim
   | cons o rest =>
     have ho : ops[k]? = some o := by
      have := congrArg (fun l => l[0]?) hl
      simpa using this
     have hrest : rest = ops.toList.drop (k + 1) := by
      have := congrArg List.tail hl
      simpa using this.symm
     have hfr : ∀ v, vals k = v → (frameAt ops vals a k).put o.dst v = frameAt ops vals a (k + 1) := by
      intro v hvk
      simp only [frameAt, ho, Option.bind_some, hvk]
     have hdr : (s :: sps).drop (i + 1) = sps.drop i := rfl
     have hf0 : fl k = s.isEff := by have := hfl 0 (by simp); simpa [flagsE] using this
     have hfl2 : ∀ j, j < sps.length → fl (k + 1 + j) = flagsE sps j := fun j hj => by
      have := hfl (j + 1) (by simpa using hj)
      rw [show k + (j + 1) = k + 1 + j by omega] at this
      simpa [flagsE] using this
     have hun2 : ∀ j, j < sps.length → ops[k + 1 + j]?.bind (·.dst) = none → vals (k + 1 + j) = undef := fun j hjl hj => by
      have := hun (j + 1) (by simpa using hjl) (by rw [show k + (j + 1) = k + 1 + j by omega]; exact hj)
      rwa [show k + (j + 1) = k + 1 + j by omega] at this
     rw [hl] at h
     have hv2 : ∀ j v, sps[j]? = some (.val v) → vals (k + 1 + j) = v := fun j v hj => by
      have := hv (j + 1) v (by simpa using hj)
      rwa [show k + (j + 1) = k + 1 + j by omega] at this
     cases s with
     | val v =>
       simp only [wpSeF] at h
       obtain ⟨_, h2⟩ := h
       have hvk : vals k = v := hv 0 v (by simp)
       have hr : rankE fl k = rankE fl (k + 1) := by simp [rankE, hf0, Se.isEff]
       rw [hfr v hvk, hrest, hr] at h2
       obtain ⟨F', f1, f2⟩ := wpSeF_at vals fl i sps (k + 1) F hv2 hfl2 hun2 h2 (by simpa using hi)
       refine ⟨F', fun w' S hF hA => f1 w' S hF fun j A d hj hs hd hS => ?_, ?_⟩
       · have := hA (j + 1) A d (by omega) (by simpa using hs) (by rw [show k + (j + 1) = k + 1 + j by omega]; exact hd) hS
         rwa [show k + (j + 1) = k + 1 + j by omega] at this
       · rw [hdr, show k + (i + 1) = k + 1 + i by omega]; exact f2
     | rel A0 =>
       simp only [wpSeF] at h
       obtain ⟨_, _, _, h2⟩ := h
       have h2 := h2 (vals k)
       have hr : rankE fl k = rankE fl (k + 1) := by simp [rankE, hf0, Se.isEff]
       rw [hfr _ rfl, hrest, hr] at h2
       obtain ⟨F', f1, f2⟩ := wpSeF_at vals fl i sps (k + 1) _ hv2 hfl2 hun2 h2 (by simpa using hi)
       refine ⟨F', fun w' S hF hA => f1 w' S ⟨hF, fun d hd hS => ?_⟩ fun j A d hj hs hd hS => ?_, ?_⟩
       · exact hA 0 (.rel A0) d (by omega) (by simp) (by simpa [ho] using hd) hS
       · have := hA (j + 1) A d (by omega) (by simpa using hs) (by rw [show k + (j + 1) = k + 1 + j by omega]; exact hd) hS
         rwa [show k + (j + 1) = k + 1 + j by omega] at this
       · rw [hdr, show k + (i + 1) = k + 1 + i by omega]; exact f2
     | eff E0 A0 =>
       simp only [wpSeF] at h
       obtain ⟨_, _, _, h2⟩ := h
       have h2 := h2 (vals k) (fun hd => by have := hun 0 (by simp) (by simpa [ho] using hd); simpa using this)
       have hr : rankE fl k + 1 = rankE fl (k + 1) := by simp [rankE, hf0, Se.isEff]
       rw [hfr _ rfl, hrest, hr] at h2
       obtain ⟨F', f1, f2⟩ := wpSeF_at vals fl i sps (k + 1) _ hv2 hfl2 hun2 h2 (by simpa using hi)
       refine ⟨F', fun w' S hF hA => f1 w' S ⟨hF, fun d hd hS => ?_⟩ fun j A d hj hs hd hS => ?_, ?_⟩
       · exact hA 0 (.eff E0 A0) d (by omega) (by simp) (by simpa [ho] using hd) hS
       · have := hA (j + 1) A d (by omega) (by simpa using hs) (by rw [show k + (j + 1) = k + 1 + j by omega]; exact hd) hS
         rwa [show k + (j + 1) = k + 1 + j by omega] at this
       · rw [hdr, show k + (i + 1) = k + 1 + i by omega]; exact f2
theorem region_effF {id : Nat} {l : List Oper} {Q : Exit → Act → World → Prop} {a : Act} {w : World} (n : Nat) (hm : P.follows .mixedOrders = true) (hB : (regB l.toArray n && Region.noSelect l.toArray && apartE l.toArray n) = true) (hN : dstsB l.toArray n a.tmps.size = true)
 (sps : List Se) (hl : sps.length = n) (hg : eAll l.toArray sps 0 sps) (hline : lineB l.toArray (sps.map Se.isEff) = true)
 (St : Nat → Act → World → Prop) (hS0 : St 0 a w) (hSm : ∀ s a' w1 w2, St s a' w1 → Own w1 w2 [] → St s a' w2)
 (Ds : List Nat) (ie : Nat) (hSp : ∀ s a' w' d v, (d ∉ Ds ∨ s ≤ rankE (flagsE sps) ie) → St s a' w' → St s (a'.put (some d) v) w') (hie : (decide (ie < n) && flagsE sps ie && (List.range n).all fun i => match l.toArray[i]?.bind (·.dst) with | some d => !Ds.contains d || waitsB l.toArray ie i | none => true) = true)
 (h : wpSeF P l.toArray St (fun r F a' => ∀ w', St r a' w' → F w' (fun _ => True) → wpList P l.toArray Q (l.drop n) a' w') 0 sps l (fun _ _ => True) a) : (Code.region id l.toArray true).wp P Q a w := by
 simp only [Bool.and_eq_true] at hB
 obtain ⟨⟨hB, hsel⟩, hap⟩ := hB
 simp only [Bool.and_eq_true, decide_eq_true_eq, List.all_eq_true, List.mem_range] at hie
 obtain ⟨⟨hie1, hie2⟩, hie3⟩ := hie
 have hN' := dstsB_spec hN
 obtain ⟨fl, hfl⟩ : ∃ fl, fl = flagsE sps := ⟨_, rfl⟩
 rw [← hfl] at hie2
 simp only [lineB, Bool.and_eq_true] at hline
 obtain ⟨hline, hdst⟩ := hline
 have hflE : ∀ j, j < n → (sps.map Se.isEff).getD j false = fl j := fun j hj => by
  rw [hfl]; unfold flagsE
  have hi : j < sps.length := by omega
  simp [hi]
 have hlineS : ∀ i j, i < j → j < n → fl i = true → fl j = true → waitsB l.toArray j i = true := by
  intro i j hij hj h1 h2
  simp only [List.all_eq_true, List.mem_range, Bool.or_eq_true, Bool.not_eq_true', List.length_map] at hline
  rcases hline j (by omega) i hij with h3 | h3
  · rw [hflE i (by omega), hflE j hj, h1, h2] at h3
    cases h3
  · exact h3
 have hdstS : ∀ j, j < n → l.toArray[j]?.bind (·.dst) = none → fl j = true := by
  intro j hj hd
  simp only [List.all_eq_true, List.mem_range, Bool.or_eq_true, List.length_map] at hdst
  rcases hdst j (by omega) with h3 | h3
  · rw [hd] at h3; cases h3
  · rwa [hflE j hj] at h3
 have h' : wpSeF P l.toArray St (fun r F a' => ∀ w', St r a' w' → F w' (fun _ => True) → wpList P l.toArray Q (l.drop n) a' w') (rankE fl 0) sps (l.toArray.toList.drop 0) (fun _ _ => True) (frameAt l.toArray (fun _ => undef) a 0) := by simpa [frameAt, rankE] using h
 have hat : ∀ (vals : Nat → Value), (∀ j v, sps[j]? = some (.val v) → vals j = v) → (∀ j, j < n → l.toArray[j]?.bind (·.dst) = none → vals j = undef) → ∀ i, i ≤ n → _ := fun vals hv hu i hi =>
  wpSeF_at (P := P) (ops := l.toArray) (St := St) (a := a) vals fl i sps 0 (fun _ _ => True) (fun j v hj => by rw [Nat.zero_add]; exact hv j v hj) (fun j hj => by rw [Nat.zero_add, hfl]) (fun j hjn hj => by rw [Nat.zero_add] at hj ⊢; exact hu j (by omega) hj) h' (by omega)
 let A : Nat → Asn := fun i => match sps[i]? with | some s => s.asn | none => fun _ _ => True
 let vof : Act → Nat → Value := fun a' j => match sps[j]? with | some (.val v) => v | _ => match (l.toArray[j]?).bind (·.dst) with | some d => a'.tmps.getD d undef | none => undef
 have hvof : ∀ a' j v, sps[j]? = some (.val v) → vof a' j = v := fun a' j v hj => by simp only [vof, hj]
 have hvou : ∀ a' j, j < n → l.toArray[j]?.bind (·.dst) = none → vof a' j = undef := fun a' j hj hd => by
  have h1 := hdstS j hj hd
  rw [hfl] at h1
  have hjs : j < sps.length := by omega
  simp only [flagsE, List.getElem?_eq_getElem hjs] at h1
  simp only [vof, List.getElem?_eq_getElem hjs, hd]
  cases hs : sps[j] with
  | val v => rw [hs] at h1; cases h1
  | rel A0 => rfl
  | eff E0 A0 => rfl
 have hfr : ∀ (a' : Act) (w' : World) (i s : Nat), i ≤ n → asnAt l.toArray (fun s _ v => v = a.tmps.getD s undef) A i s w' (a'.tmps.getD s undef) → a'.tmps.getD s undef = (frameAt l.toArray (vof a') a i).tmps.getD s undef := by
  intro a' w' i s hi hasn
  refine asnAt_frame' i (fun j o d hj => hN' j o d (by omega)) (fun j hj hd hA => ?_) hasn
  have hjs : j < sps.length := by omega
  simp only [A, List.getElem?_eq_getElem hjs] at hA
  simp only [vof, List.getElem?_eq_getElem hjs, hd]
  cases hs : sps[j] with
  | val v => rw [hs] at hA; exact hA
  | rel A0 => rfl
  | eff E0 A0 => rfl
 have hF : ∀ (a' : Act) (w' : World) (i : Nat) (S : Nat → Prop), i ≤ n → (∀ s, S s → asnAt l.toArray (fun s _ v => v = a.tmps.getD s undef) A i s w' (a'.tmps.getD s undef)) →
  ∀ j s d, j < i → sps[j]? = some s → l.toArray[0 + j]?.bind (·.dst) = some d → S d → s.asn w' (vof a' (0 + j)) := by
  intro a' w' i S hi hS j s d hj hs hd hSd
  rw [Nat.zero_add] at hd ⊢
  have h1 := asnAt_ofE (A := A) hap hd i hi hj (hS d hSd)
  simp only [A, hs] at h1
  cases s with
  | val v => simp only [vof, hs]; rfl
  | rel A0 => simp only [vof, hs, hd]; exact h1
  | eff E0 A0 => simp only [vof, hs, hd]; exact h1
 have hmono : ∀ k, k < n → Mono (A k) := by
  intro k hk
  have hks : k < sps.length := by omega
  obtain ⟨F', _, f2⟩ := hat (vof a) (hvof a) (hvou a) k (by omega)
  simp only [A, List.getElem?_eq_getElem hks]
  rw [List.drop_eq_getElem_cons hks] at f2
  cases hs : sps[k] with
  | val v => exact fun _ _ _ _ h => h
  | rel A0 =>
    rw [hs] at f2
    cases hd : l.toArray.toList.drop (0 + k) with
    | nil => rw [hd] at f2; exact f2.elim
    | cons o rest => rw [hd] at f2; exact f2.1
  | eff E0 A0 =>
    rw [hs] at f2
    cases hd : l.toArray.toList.drop (0 + k) with
    | nil => rw [hd] at f2; exact f2.elim
    | cons o rest => rw [hd] at f2; exact f2.1
 refine region_relF n hm hB hN' (fun listed a' w' => listed.size = l.toArray.size ∧ St (cntE fl listed n) a' w') A (by
  refine ⟨Array.size_replicate .., ?_⟩
  rw [cntE_none]
  exact hSm 0 a w _ hS0 (Own.refl w).drew) ?_ ?_
 · intro i o hi ho listed a' w' hcl hwt hnl hJ hasn
   obtain ⟨hlsz, hJ⟩ := hJ
   have hlsz2 : (listed.setIfInBounds i true).size = l.toArray.size := by rw [Array.size_setIfInBounds]; exact hlsz
   have his : i < sps.length := by omega
   have hio : i < l.toArray.toList.length := by have := (Array.getElem?_eq_some_iff.1 ho).1; simpa using this
   have heq : ∀ s ∈ o.looksAt l.toArray, a'.tmps.getD s undef = (frameAt l.toArray (vof a') a i).tmps.getD s undef := fun s hs => hfr a' w' i s (by omega) (hasn s hs)
   obtain ⟨F', f1, f2⟩ := hat (vof a') (hvof a') (hvou a') i (by omega)
   have hFw := f1 w' (fun s => s ∈ o.looksAt l.toArray) trivial (hF a' w' i _ (by omega) hasn)
   have hsel' := Region.noSelect_spec hsel
   have hexec : execOp a'.eval o = execOp (frameAt l.toArray (vof a') a i).eval o := execOp_congr o (fun cs b => hsel' i o cs b ho) (fun x hx => by
    cases x with
    | tmp t => exact heq t (List.mem_append_left _ (List.mem_filterMap.2 ⟨.tmp t, by simpa using hx, rfl⟩))
    | _ => rfl)
   rw [wanted_congr heq]
   rw [Nat.zero_add, List.drop_eq_getElem_cons his, List.drop_eq_getElem_cons hio] at f2
   have hoe : l.toArray.toList[i] = o := by
    have := (Array.getElem?_eq_some_iff.1 ho).2
    simpa using this
   rw [hoe] at f2
   have hfi : fl i = sps[i].isEff := by rw [hfl]; unfold flagsE; rw [List.getElem?_eq_getElem his]
   have hcntE : sps[i].isEff = false → cntE fl (listed.setIfInBounds i true) n = cntE fl listed n := fun he => cntE_congr n fun j hj hfj => by
    rw [getD_setT, if_neg]
    rintro ⟨rfl, _⟩
    rw [hfi, he] at hfj
    cases hfj
   have hput : sps[i].isEff = false → ∀ v w'', St (cntE fl listed n) a' w'' → St (cntE fl listed n) (a'.put o.dst v) w'' := fun he v w'' hS => by
    cases hod : o.dst with
    | none => exact hS
    | some d =>
      refine hSp _ _ _ d v ?_ hS
      by_cases hd : d ∈ Ds
      · right
        rw [← hfl]
        have h1 := hie3 i hi
        rw [ho, Option.bind_some, hod] at h1
        simp only [Bool.or_eq_true, Bool.not_eq_true'] at h1
        have h2 : waitsB l.toArray ie i = true := by
         rcases h1 with h1 | h1
         · rw [← Bool.not_eq_true, List.contains_iff_mem] at h1; exact absurd hd h1
         · exact h1
        have h3 : listed.getD ie false = false := by
         cases hl3 : listed.getD ie false with
         | false => rfl
         | true => have := hcl ie i h2 hl3; rw [hnl] at this; cases this
        have h4 : cntE fl listed n = cntE fl listed ie := cntE_post n (by omega) (fun j hij hj hfj => by
         by_cases e : j = ie
         · subst e; exact h3
         · cases hl4 : listed.getD j false with
           | false => rfl
           | true => have := hcl j ie (hlineS ie j (by omega) hj hie2 hfj) hl4; rw [h3] at this; cases this)
        rw [h4]
        exact cntE_le ie
      · exact Or.inl hd
   simp only [A, List.getElem?_eq_getElem his]
   cases hs : sps[i] with
   | val v =>
     have hput := hput (by rw [hs]; rfl)
     have hcnt := hcntE (by rw [hs]; rfl)
     rw [hs] at f2
     obtain ⟨f2, _⟩ := f2
     have hq := f2 w' ⟨_, _, hJ⟩ hFw
     split at hq
     · rename_i hw
       rw [if_pos hw]
       unfold YieldsTo at hq ⊢
       rw [hexec]
       generalize (execOp (frameAt l.toArray (vof a') a i).eval o).run P w' = r at *
       cases r with
       | halt x w'' => exact hq.elim
       | ok nx w'' =>
         cases nx <;> simp only at hq ⊢
         case value x => exact ⟨hq.1, ⟨hlsz2, by rw [hcnt]; exact hput _ _ (hSm _ _ _ _ hJ hq.2)⟩, fun k hk _ _ v h => hmono k hk _ _ _ hq.2 h⟩
         case skip => exact ⟨hq.1, ⟨hlsz2, by rw [hcnt]; exact hput _ _ (hSm _ _ _ _ hJ hq.2)⟩, fun k hk _ _ v h => hmono k hk _ _ _ hq.2 h⟩
         case enter f args => exact hq.mono fun e w3 ⟨u, he, h1, h2⟩ => ⟨u, he, h1, ⟨hlsz2, by rw [hcnt]; exact hput _ _ (hSm _ _ _ _ hJ h2)⟩, fun k hk _ _ v h => hmono k hk _ _ _ h2 h⟩
     · rename_i hw
       rw [if_neg hw]
       exact ⟨hq, hlsz2, by rw [hcnt]; exact hput _ _ hJ⟩
   | rel A0 =>
     have hput := hput (by rw [hs]; rfl)
     have hcnt := hcntE (by rw [hs]; rfl)
     rw [hs] at f2
     obtain ⟨_, hw, f3, _⟩ := f2
     rw [if_pos hw]
     have hy := f3 w' ⟨_, _, hJ⟩ hFw
     unfold YieldsTo at hy ⊢
     rw [hexec]
     generalize (execOp (frameAt l.toArray (vof a') a i).eval o).run P w' = r at *
     cases r with
     | halt x w'' => exact hy.elim
     | ok nx w'' =>
       cases nx <;> simp only at hy ⊢
       case value x => exact ⟨hy.2, ⟨hlsz2, by rw [hcnt]; exact hput _ _ (hSm _ _ _ _ hJ hy.1)⟩, fun k hk _ _ v h => hmono k hk _ _ _ hy.1 h⟩
       case skip => exact ⟨hy.2, ⟨hlsz2, by rw [hcnt]; exact hput _ _ (hSm _ _ _ _ hJ hy.1)⟩, fun k hk _ _ v h => hmono k hk _ _ _ hy.1 h⟩
       case enter f args => exact hy.mono fun e w3 ⟨v, he, h1, h2⟩ => ⟨v, he, h2, ⟨hlsz2, by rw [hcnt]; exact hput _ _ (hSm _ _ _ _ hJ h1)⟩, fun k hk _ _ v h => hmono k hk _ _ _ h1 h⟩
   | eff E0 A0 =>
     have hfi1 : fl i = true := by rw [hfi, hs]; rfl
     have hunder : ∀ j, j < i → fl j = true → listed.getD j false = true := fun j hj hfj => hwt j (hlineS j i hj hi hfj hfi1)
     have hover : ∀ j, i ≤ j → j < n → fl j = true → listed.getD j false = false := fun j hij hj hfj => by
      by_cases e : j = i
      · subst e; exact hnl
      · cases hlj : listed.getD j false with
        | false => rfl
        | true =>
          have := hcl j i (hlineS i j (by omega) hj hfi1 hfj) hlj
          rw [hnl] at this
          cases this
     have hc0 : cntE fl listed n = rankE fl i := by rw [cntE_post n (by omega) hover, cntE_pre i hunder]
     have hisz : i < listed.size := by rw [hlsz]; simpa using hio
     have hc1 : cntE fl (listed.setIfInBounds i true) n = rankE fl i + 1 := by
      have e1 : ∀ j, j < i + 1 → fl j = true → (listed.setIfInBounds i true).getD j false = true := fun j hj hfj => by
       rw [getD_setT]
       split
       · rfl
       · rename_i hne
         exact hunder j (by have : j ≠ i := fun e => hne ⟨e.symm, hisz⟩; omega) hfj
      have e2 : ∀ j, i + 1 ≤ j → j < n → fl j = true → (listed.setIfInBounds i true).getD j false = false := fun j hij hj hfj => by
       rw [getD_setT, if_neg (fun h => by omega)]
       exact hover j (by omega) hj hfj
      rw [cntE_post n (by omega) e2, cntE_pre (i + 1) e1]
      simp [rankE, hfi1]
     rw [hs] at f2
     rw [hc0] at hJ
     obtain ⟨_, hw, f3, _⟩ := f2
     rw [if_pos hw]
     have hy := f3 a' w' heq hJ hFw
     have hpres : ∀ w'', E0 w' w'' → ∀ k, k < n → k ≠ i → listed.getD k false = true → ∀ v, A k w' v → A k w'' v := by
      intro w'' hgr k hk hki hlk v hv
      have hks : k < sps.length := by omega
      have hrow := eAll_at sps 0 hg i E0 A0 (by rw [List.getElem?_eq_getElem his, hs])
      rw [Nat.zero_add] at hrow
      have h3 := eRow_at sps 0 hrow k sps[k] (List.getElem?_eq_getElem hks)
      rw [Nat.zero_add] at h3
      simp only [A, List.getElem?_eq_getElem hks] at hv ⊢
      rcases h3 with h3 | h3 | h3
      · exact absurd h3 hki
      · have := hcl k i h3 hlk
        rw [hnl] at this
        cases this
      · cases hsk : sps[k] with
        | val v0 => rw [hsk] at hv; exact hv
        | rel A1 => rw [hsk] at hv h3; exact h3 w' w'' v hgr hv
        | eff E1 A1 => rw [hsk] at hv h3; exact h3 w' w'' v hgr hv
     unfold YieldsTo at hy ⊢
     rw [hexec]
     generalize (execOp (frameAt l.toArray (vof a') a i).eval o).run P w' = r at *
     cases r with
     | halt x w'' => exact hy.elim
     | ok nx w'' =>
       cases nx <;> simp only at hy ⊢
       case value x => exact ⟨hy.2.2.1, ⟨hlsz2, by rw [hc1]; exact hy.2.1⟩, hpres _ hy.1⟩
       case skip => exact ⟨hy.2.2.1, ⟨hlsz2, by rw [hc1]; exact hy.2.1⟩, hpres _ hy.1⟩
       case enter f args => exact hy.mono fun e w3 ⟨v, he, h1, h2, h3, _⟩ => ⟨v, he, h3, ⟨hlsz2, by rw [hc1]; exact h2⟩, hpres _ h1⟩
 · intro listed a' w' hall hJ hsz hd hasn
   obtain ⟨_, hJ⟩ := hJ
   rw [cntE_all n hall] at hJ
   have : a' = frameAt l.toArray (vof a') a n := by
    have h1 := frameAt_size (ops := l.toArray) (vals := vof a') (a := a) n
    have h2 := frameAt_defers (ops := l.toArray) (vals := vof a') (a := a) n
    have h3 : a'.tmps = (frameAt l.toArray (vof a') a n).tmps := by
     apply Array.ext
     · omega
     · intro j hj1 hj2
       have := hfr a' w' n j (Nat.le_refl _) (hasn j)
       simpa [hj1, hj2] using this
    generalize frameAt l.toArray (vof a') a n = fr at h2 h3
    obtain ⟨t1, d1⟩ := a'
    obtain ⟨t3, d3⟩ := fr
    simp only at h2 h3 hd
    rw [h3, hd, h2]
   obtain ⟨F', f1, f2⟩ := hat (vof a') (hvof a') (hvou a') n (Nat.le_refl _)
   have hFw := f1 w' (fun _ => True) trivial (hF a' w' n _ (Nat.le_refl _) (fun s _ => hasn s))
   have hd0 : sps.drop n = [] := List.drop_of_length_le (by omega)
   rw [hd0] at f2
   simp only [wpSeF] at f2
   rw [Nat.zero_add, ← this] at f2
   simpa using f2 w' hJ hFw
variable {St : Nat → Act → World → Prop} {K : Nat → (World → (Nat → Prop) → Prop) → Act → Prop} {r : Nat} {sps : List Se} {o : Oper} {rest : List Oper} {F : World → (Nat → Prop) → Prop} {a : Act} {v : Value}
theorem sf_val (h1 : ∀ w', (∃ s a', St s a' w') → F w' (fun s => s ∈ o.looksAt ops) → wpQuiet P ops (fun w'' => w'' = w') (fun a' => a' = a.put o.dst v) [o] a) (hd : ∃ d, o.dst = some d ∧ d < a.tmps.size)
 (h2 : wpSeF P ops St K r sps rest F (a.put o.dst v)) : wpSeF P ops St K r (.val v :: sps) (o :: rest) F a := by
 refine ⟨fun w' hw' hF => ?_, h2⟩
 obtain ⟨d, hd1, hd2⟩ := hd
 have hput : ∀ u, a.put o.dst u = a.put o.dst v → u = v := by
  intro u hu
  have := congrArg (fun x : Act => x.tmps[d]?) hu
  simpa [Act.put, hd1, hd2] using this
 have hq := h1 w' hw' hF
 unfold wpQuiet at hq
 split at hq
 · rename_i hw
   rw [if_pos hw]
   obtain ⟨u, hu1, hu2⟩ := hq
   obtain rfl := hput u hu2
   have hq' := hu1 w' rfl
   unfold Oper.quietAt at hq'
   unfold YieldsTo
   generalize (execOp a.eval o).run P w' = r at *
   cases r with
   | halt x w'' => exact hq'.elim
   | ok nx w'' =>
     cases nx <;> simp only [Oper.quietUpon] at hq' ⊢
     case value x => obtain ⟨rfl, rfl⟩ := hq'; exact ⟨rfl, Own.refl _⟩
     case skip => obtain ⟨rfl, hv⟩ := hq'; exact ⟨hv.symm, Own.refl _⟩
     case enter f args =>
      obtain ⟨rfl, hc⟩ := hq'
      exact hc.mono fun e w3 ⟨he, hc3⟩ => ⟨_, he, rfl, by rw [hc3]; exact Own.refl _⟩
 · rename_i hw
   rw [if_neg hw]
   exact hput _ hq
theorem sf_run (hw : Region.wanted o (yielded ops a.tmps) = true) (hrun : ∀ w', (∃ s a', St s a' w') → F w' (fun s => s ∈ o.looksAt ops) → (execOp a.eval o).run P w' = .ok (.value v) w')
 (h2 : wpSeF P ops St K r sps rest F (a.put o.dst v)) : wpSeF P ops St K r (.val v :: sps) (o :: rest) F a := by
 refine ⟨fun w' hw' hF => ?_, h2⟩
 rw [if_pos hw]
 exact yieldsTo_val (hrun w' hw' hF) ⟨rfl, Own.refl _⟩
theorem sf_callN (hw : Region.wanted o (yielded ops a.tmps) = true) {f : Nat} {fn : Func} {xs : Array Operand} {ats : Array TypeId} {args : Array Value} (hop : o.op = .call { callee := .value (.func f), args := xs, argTypes := ats }) (hargs : xs.map a.eval = args)
 (hf : P.funcs[f]? = some fn) (hname : (fn.name == "runtime.NumGoroutine") = false) (hb : fn.body.isNone = false)
 (h1 : ∀ w', (∃ s a', St s a' w') → F w' (fun s => s ∈ o.looksAt ops) → Calls P f args w' fun e w'' => e = .returned v ∧ Own w' w'' [])
 (h2 : wpSeF P ops St K r sps rest F (a.put o.dst v)) : wpSeF P ops St K r (.val v :: sps) (o :: rest) F a := by
 refine ⟨fun w' hw' hF => ?_, h2⟩
 rw [if_pos hw]
 unfold YieldsTo
 rw [Conc.run_call_body hop hf hname hb, hargs]
 exact (h1 w' hw' hF).mono fun e w'' ⟨he, h⟩ => ⟨_, he, rfl, h⟩
theorem sf_callR {A : World → Value → Prop} (hm : Mono A) (hw : Region.wanted o (yielded ops a.tmps) = true) {f : Nat} {fn : Func} {xs : Array Operand} {ats : Array TypeId} {args : Array Value} (hop : o.op = .call { callee := .value (.func f), args := xs, argTypes := ats }) (hargs : xs.map a.eval = args)
 (hf : P.funcs[f]? = some fn) (hname : (fn.name == "runtime.NumGoroutine") = false) (hb : fn.body.isNone = false)
 (h1 : ∀ w', (∃ s a', St s a' w') → F w' (fun s => s ∈ o.looksAt ops) → Calls P f args w' fun e w'' => ∃ r, e = .returned r ∧ A w'' r ∧ Own w' w'' [])
 (h2 : ∀ v, wpSeF P ops St K r sps rest (fun w' S => F w' S ∧ ∀ d, o.dst = some d → S d → A w' v) (a.put o.dst v)) : wpSeF P ops St K r (.rel A :: sps) (o :: rest) F a := by
 refine ⟨hm, hw, fun w' hw' hF => ?_, h2⟩
 unfold YieldsTo
 rw [Conc.run_call_body hop hf hname hb, hargs]
 exact (h1 w' hw' hF).mono fun e w'' ⟨r, he, hA, ho⟩ => ⟨r, he, ho, hA⟩
theorem sf_callE {E : World → World → Prop} {A : World → Value → Prop} (hm : Mono A) (hw : Region.wanted o (yielded ops a.tmps) = true) (hds : o.dst.isSome = true) {f : Nat} {fn : Func} {xs : Array Operand} {ats : Array TypeId} {args : Array Value} (hop : o.op = .call { callee := .value (.func f), args := xs, argTypes := ats }) (hargs : xs.map a.eval = args)
 (hf : P.funcs[f]? = some fn) (hname : (fn.name == "runtime.NumGoroutine") = false) (hb : fn.body.isNone = false)
 (h1 : ∀ a' w', (∀ s ∈ o.looksAt ops, a'.tmps.getD s undef = a.tmps.getD s undef) → St r a' w' → F w' (fun s => s ∈ o.looksAt ops) → Calls P f args w' fun e w'' => ∃ v, e = .returned v ∧ A w'' v ∧ E w' w'' ∧ St (r + 1) (a'.put o.dst v) w'')
 (h2 : ∀ v, wpSeF P ops St K (r + 1) sps rest (fun w' S => F w' S ∧ ∀ d, o.dst = some d → S d → A w' v) (a.put o.dst v)) : wpSeF P ops St K r (.eff E A :: sps) (o :: rest) F a := by
 have hne : o.dst = none → False := fun h => by rw [h] at hds; cases hds
 refine ⟨hm, hw, fun a' w' hag hw' hF => ?_, fun v _ => h2 v⟩
 unfold YieldsTo
 rw [Conc.run_call_body hop hf hname hb, hargs]
 exact (h1 a' w' hag hw' hF).mono fun e w'' ⟨r, he, hA, hE, hS⟩ => ⟨r, he, hE, hS, hA, fun h => (hne h).elim⟩
theorem sf_rel {A : World → Value → Prop} (hm : Mono A) (hw : Region.wanted o (yielded ops a.tmps) = true) (h1 : ∀ w', (∃ s a', St s a' w') → F w' (fun s => s ∈ o.looksAt ops) → YieldsTo P o a w' (fun v w'' => Own w' w'' [] ∧ A w'' v))
 (h2 : ∀ v, wpSeF P ops St K r sps rest (fun w' S => F w' S ∧ ∀ d, o.dst = some d → S d → A w' v) (a.put o.dst v)) : wpSeF P ops St K r (.rel A :: sps) (o :: rest) F a := ⟨hm, hw, h1, h2⟩
theorem sf_store {E : World → World → Prop} (hd : o.dst = none) (hg : o.guard = none) (h1 : ∀ a' w', (∀ s ∈ o.looksAt ops, a'.tmps.getD s undef = a.tmps.getD s undef) → St r a' w' → F w' (fun s => s ∈ o.looksAt ops) → ∃ w'', (execOp a.eval o).run P w' = .ok .skip w'' ∧ E w' w'' ∧ St (r + 1) a' w'')
 (h2 : wpSeF P ops St K (r + 1) sps rest (fun w' S => F w' S ∧ ∀ d, o.dst = some d → S d → True) a) : wpSeF P ops St K r (.eff E (fun _ _ => True) :: sps) (o :: rest) F a := by
 refine ⟨fun _ _ _ _ _ => trivial, by simp [Region.wanted, hg], fun a' w' hag hw' hF => ?_, fun v hv => ?_⟩
 · obtain ⟨w'', hr, hE, hS⟩ := h1 a' w' hag hw' hF
   unfold YieldsTo
   rw [hr]
   exact ⟨hE, by rw [hd]; exact hS, trivial, fun _ => rfl⟩
 · have : a.put o.dst v = a := by rw [hd]; rfl
   rw [this]
   exact h2
theorem sf_nil (h : K r F a) {l : List Oper} : wpSeF P ops St K r [] l F a := by
 cases l <;> exact h
end
end Go.Proofs.YtfihlmnbonnekaaGreat
