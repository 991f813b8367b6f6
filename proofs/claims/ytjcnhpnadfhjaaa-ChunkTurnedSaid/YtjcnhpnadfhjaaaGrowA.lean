/- The law of XGrow once more, for regions in which 'append' grows a slice of the region's own, too. No dump, no condition. -/
import Derived.Test.YtjcnhpnadfhjaaaGrow
import Derived.Test.YtjcnhpnadfhjaaaBuf
import Derived.Test.YtjcnhpnadfhjaaaMake
namespace Go.Proofs.Ytjcnhpnadfhjaaa
open Go.RowKit

/-- a step that leaves all as it was, but for the cells from m on of one row that is not older than B -/
def Gr (B m : Nat) (w1 w2 : World) : Prop := Own w1 w2 [] ∨ ∃ g cs cs' T, B ≤ g ∧ w1.heap[g]? = some (.cells (List.toArray cs) T (0, 0)) ∧ Own w1 w2 [(g, cs', T)] ∧ cs'.length = cs.length ∧ cs'.take m = cs.take m

theorem Gr.own {w w1 w2 : World} {m : Nat} (h : Gr w.heap.size m w1 w2) (h1 : Own w w1 []) : Own w w2 [] := by
  rcases h with h | ⟨g, cs, cs', T, hg, hc, h, _, _⟩
  · exact h1.call0 h
  · exact ⟨h.os.trans h1.os, h.tape.trans h1.tape, h.output.trans h1.output, Nat.le_trans h1.size h.size, fun k hk _ => (h.keep k (Nat.lt_of_lt_of_le hk h1.size) (by simp; omega)).trans (h1.keep k hk (by simp)), List.nodup_nil, fun _ _ _ h => by cases h⟩

theorem Buf.gr {e : TypeId} {k : IntKind} {w w1 w2 : World} {v : Value} {xs : List Int} {m : Nat} (h : Buf e k w w1 [] v xs) (hm : xs.length ≤ m) (hg : Gr w.heap.size m w1 w2) : Buf e k w w2 [] v xs := by
  have hown := hg.own (by obtain ⟨Lv, _, h2, h3⟩ := h; exact h2.drop h3)
  rcases hg with hg | ⟨g, cs, cs', T, hgB, hc, hg, hl, ht⟩
  · exact h.call0 hg
  · obtain ⟨Lv, ⟨h1, ⟨rfl, h2, rfl⟩ | ⟨g0, cap, cs0, rfl, rfl, hn, hcap, hcl, htk⟩⟩, h3, h4⟩ := h
    · exact ⟨[], ⟨h1, Or.inl ⟨rfl, h2, rfl⟩⟩, hown, by simp⟩
    · by_cases hgg : g0 = g
      · subst hgg
        have hh := h3.here g0 cs0 e (by simp)
        rw [hc] at hh
        simp only [Option.some.injEq, Obj.cells.injEq, and_true] at hh
        obtain ⟨hcs, rfl⟩ := hh
        have hcs' : cs = cs0 := by simpa using congrArg Array.toList hcs
        subst hcs'
        refine ⟨[(g0, cs', T)], ⟨h1, Or.inr ⟨g0, cap, cs', rfl, rfl, hn, hcap, by omega, ?_⟩⟩, h3.call1 hg, h4⟩
        rw [← htk, ← Nat.min_eq_left (show xs.length * 1 ≤ m by omega), ← List.take_take, ← List.take_take, ht]
      · refine ⟨[(g0, cs0, e)], ⟨h1, Or.inr ⟨g0, cap, cs0, rfl, rfl, hn, hcap, hcl, htk⟩⟩, ⟨hown.os, hown.tape, hown.output, hown.size, fun k hk hkn => hown.keep k hk (by simp), by simp, fun b cs1 T1 hm1 => ?_⟩, h4⟩
        simp at hm1
        obtain ⟨rfl, rfl, rfl⟩ := hm1
        have hh := h3.here b cs1 T1 (by simp)
        rw [hg.keep b (Array.getElem?_eq_some_iff.1 hh).1 (by simpa using hgg)]
        exact hh

/-- a step that marks a row that is not older than B: it reads as before -/
def Mk (B : Nat) (w1 w2 : World) : Prop := w2.os = w1.os ∧ w2.tape = w1.tape ∧ w2.output = w1.output ∧ w1.heap.size ≤ w2.heap.size ∧ ∃ g, B ≤ g ∧ (∀ k, k < w1.heap.size → k ≠ g → w2.heap[k]? = w1.heap[k]?) ∧ w2.shape? g = w1.shape? g ∧ ∀ i x, w1.cell? ⟨g, i, none⟩ = some x → w2.cell? ⟨g, i, none⟩ = some x

theorem Mk.own {w w1 w2 : World} (h : Mk w.heap.size w1 w2) (h1 : Own w w1 []) : Own w w2 [] := by
  obtain ⟨e1, e2, e3, hs, g, hg, hk, _⟩ := h
  exact ⟨e1.trans h1.os, e2.trans h1.tape, e3.trans h1.output, Nat.le_trans h1.size hs, fun k hk2 _ => (hk k (Nat.lt_of_lt_of_le hk2 h1.size) (by omega)).trans (h1.keep k hk2 (by simp)), List.nodup_nil, fun _ _ _ h => by cases h⟩

theorem Mk.sl {B : Nat} {w1 w2 : World} (h : Mk B w1 w2) {v : Value} {n : Nat} {xs : List Value} (hs : SlAt w1 v n xs) : SlAt w2 v n xs := by
  obtain ⟨_, _, _, _, g, _, hk, _, hc⟩ := h
  rcases hs with hs | ⟨b, off, cap, rfl, hl, hx⟩
  · exact Or.inl hs
  · refine Or.inr ⟨b, off, cap, rfl, hl, fun i x hi => ?_⟩
    have h1 := hx i x hi
    by_cases e : b = g
    · subst e; exact hc _ _ h1
    · exact (World.cell?_of_block (w := w1) (hk b (World.block_lt_of_cell? w1 _ h1) e)).trans h1

/-- what is known of a temporary -/
inductive Sq
  | val (v : Value)
  | rel (A : World → Value → Prop)
  | app (m : Nat) (A : World → Value → Prop)
  | mrk (A : World → Value → Prop)

def Sq.asn : Sq → Asn
  | .val v => fun _ v' => v' = v
  | .rel A => A
  | .app _ A => A
  | .mrk A => A

def Sq.pres (B m : Nat) : Sq → Prop
  | .val _ => True
  | .rel A => ∀ w1 w2 v, Gr B m w1 w2 → A w1 v → A w2 v
  | .app _ A => ∀ w1 w2 v, Gr B m w1 w2 → A w1 v → A w2 v
  | .mrk A => ∀ w1 w2 v, Gr B m w1 w2 → A w1 v → A w2 v

def Sq.presM (B : Nat) : Sq → Prop
  | .val _ => True
  | .rel A => ∀ w1 w2 v, Mk B w1 w2 → A w1 v → A w2 v
  | .app _ A => ∀ w1 w2 v, Mk B w1 w2 → A w1 v → A w2 v
  | .mrk A => ∀ w1 w2 v, Mk B w1 w2 → A w1 v → A w2 v

def mRow (ops : Array Oper) (B i : Nat) : Nat → List Sq → Prop
  | _, [] => True
  | k, s :: r => (k = i ∨ waitsB ops k i = true ∨ s.presM B) ∧ mRow ops B i (k + 1) r

theorem mRow_at {ops : Array Oper} {B i : Nat} : ∀ (r : List Sq) (k0 : Nat), mRow ops B i k0 r → ∀ j s, r[j]? = some s → k0 + j = i ∨ waitsB ops (k0 + j) i = true ∨ s.presM B
  | [], _, _, j, s, hj => by simp at hj
  | s0 :: r, k0, h, 0, s, hj => by simp at hj; subst hj; simpa using h.1
  | s0 :: r, k0, h, j + 1, s, hj => by
    have := mRow_at r (k0 + 1) h.2 j s (by simpa using hj)
    rwa [show k0 + 1 + j = k0 + (j + 1) by omega] at this

def gRow (ops : Array Oper) (B i m : Nat) : Nat → List Sq → Prop
  | _, [] => True
  | k, s :: r => (k = i ∨ waitsB ops k i = true ∨ s.pres B m) ∧ gRow ops B i m (k + 1) r

def gAll (ops : Array Oper) (B : Nat) (all : List Sq) : Nat → List Sq → Prop
  | _, [] => True
  | i, .app m _ :: r => gRow ops B i m 0 all ∧ gAll ops B all (i + 1) r
  | i, .mrk _ :: r => mRow ops B i 0 all ∧ gAll ops B all (i + 1) r
  | i, .val _ :: r => gAll ops B all (i + 1) r
  | i, .rel _ :: r => gAll ops B all (i + 1) r

theorem gRow_at {ops : Array Oper} {B i m : Nat} : ∀ (r : List Sq) (k0 : Nat), gRow ops B i m k0 r → ∀ j s, r[j]? = some s → k0 + j = i ∨ waitsB ops (k0 + j) i = true ∨ s.pres B m
  | [], _, _, j, s, hj => by simp at hj
  | s0 :: r, k0, h, 0, s, hj => by simp at hj; subst hj; simpa using h.1
  | s0 :: r, k0, h, j + 1, s, hj => by
    have := gRow_at r (k0 + 1) h.2 j s (by simpa using hj)
    rwa [show k0 + 1 + j = k0 + (j + 1) by omega] at this

theorem gAll_at {ops : Array Oper} {B : Nat} {all : List Sq} : ∀ (r : List Sq) (i0 : Nat), gAll ops B all i0 r → ∀ j m A, r[j]? = some (.app m A) → gRow ops B (i0 + j) m 0 all
  | [], _, _, j, m, A, hj => by simp at hj
  | s0 :: r, i0, h, 0, m, A, hj => by
    simp at hj
    subst hj
    exact h.1
  | s0 :: r, i0, h, j + 1, m, A, hj => by
    have h' : gAll ops B all (i0 + 1) r := by
      cases s0 with
      | val v => exact h
      | rel A => exact h
      | app m A => exact h.2
      | mrk A => exact h.2
    have := gAll_at r (i0 + 1) h' j m A (by simpa using hj)
    rwa [show i0 + 1 + j = i0 + (j + 1) by omega] at this

theorem gAll_atM {ops : Array Oper} {B : Nat} {all : List Sq} : ∀ (r : List Sq) (i0 : Nat), gAll ops B all i0 r → ∀ j A, r[j]? = some (.mrk A) → mRow ops B (i0 + j) 0 all
  | [], _, _, j, A, hj => by simp at hj
  | s0 :: r, i0, h, 0, A, hj => by
    simp at hj
    subst hj
    exact h.1
  | s0 :: r, i0, h, j + 1, A, hj => by
    have h' : gAll ops B all (i0 + 1) r := by
      cases s0 with
      | val v => exact h
      | rel A => exact h
      | app m A => exact h.2
      | mrk A => exact h.2
    have := gAll_atM r (i0 + 1) h' j A (by simpa using hj)
    rwa [show i0 + 1 + j = i0 + (j + 1) by omega] at this

theorem Sq.mono_val (v : Value) : Mono (Sq.val v).asn := fun _ _ _ _ h => h

def wpSq (P : Program) (ops : Array Oper) (w : World) (K : (World → (Nat → Prop) → Prop) → Act → Prop) : List Sq → List Oper → (World → (Nat → Prop) → Prop) → Act → Prop
  | [], _, F, a => K F a
  | .val v :: sps, o :: rest, F, a => (∀ w', Own w w' [] → F w' (fun s => s ∈ o.looksAt ops) → if Region.wanted o (yielded ops a.tmps) then YieldsTo P o a w' (fun v' w'' => v' = v ∧ Own w' w'' []) else undef = v) ∧ wpSq P ops w K sps rest F (a.put o.dst v)
  | .rel A :: sps, o :: rest, F, a => Mono A ∧ Region.wanted o (yielded ops a.tmps) = true ∧ (∀ w', Own w w' [] → F w' (fun s => s ∈ o.looksAt ops) → YieldsTo P o a w' (fun v w'' => Own w' w'' [] ∧ A w'' v)) ∧
      ∀ v, wpSq P ops w K sps rest (fun w' S => F w' S ∧ ∀ d, o.dst = some d → S d → A w' v) (a.put o.dst v)
  | .app m A :: sps, o :: rest, F, a => Mono A ∧ Region.wanted o (yielded ops a.tmps) = true ∧ (∀ w', Own w w' [] → F w' (fun s => s ∈ o.looksAt ops) → YieldsTo P o a w' (fun v w'' => Gr w.heap.size m w' w'' ∧ A w'' v)) ∧
      ∀ v, wpSq P ops w K sps rest (fun w' S => F w' S ∧ ∀ d, o.dst = some d → S d → A w' v) (a.put o.dst v)
  | .mrk A :: sps, o :: rest, F, a => Mono A ∧ Region.wanted o (yielded ops a.tmps) = true ∧ (∀ w', Own w w' [] → F w' (fun s => s ∈ o.looksAt ops) → YieldsTo P o a w' (fun v w'' => Mk w.heap.size w' w'' ∧ A w'' v)) ∧
      ∀ v, wpSq P ops w K sps rest (fun w' S => F w' S ∧ ∀ d, o.dst = some d → S d → A w' v) (a.put o.dst v)
  | _ :: _, [], _, _ => False

section
variable {P : Program} {ops : Array Oper}

theorem wpSq_at {w : World} {K : (World → (Nat → Prop) → Prop) → Act → Prop} {a : Act} (vals : Nat → Value) : ∀ (i : Nat) (sps : List Sq) (k : Nat) (F : World → (Nat → Prop) → Prop), (∀ j v, sps[j]? = some (.val v) → vals (k + j) = v) →
    wpSq P ops w K sps (ops.toList.drop k) F (frameAt ops vals a k) → i ≤ sps.length →
    ∃ F', (∀ w' S, F w' S → (∀ j s d, j < i → sps[j]? = some s → ops[k + j]?.bind (·.dst) = some d → S d → s.asn w' (vals (k + j))) → F' w' S) ∧
      wpSq P ops w K (sps.drop i) (ops.toList.drop (k + i)) F' (frameAt ops vals a (k + i))
  | 0, sps, k, F, _, h, _ => ⟨F, fun _ _ h _ => h, by simpa using h⟩
  | i + 1, [], k, F, _, _, hi => by simp at hi
  | i + 1, s :: sps, k, F, hv, h, hi => by
    cases hl : ops.toList.drop k with
    | nil => rw [hl] at h; cases s <;> exact h.elim
    | cons o rest =>
      have ho : ops[k]? = some o := by
        have := congrArg (fun l => l[0]?) hl
        simpa using this
      have hrest : rest = ops.toList.drop (k + 1) := by
        have := congrArg List.tail hl
        simpa using this.symm
      have hfr : ∀ v, vals k = v → (frameAt ops vals a k).put o.dst v = frameAt ops vals a (k + 1) := by
        intro v hvk
        simp only [frameAt, ho, Option.bind_some, hvk]
      have hdr : (s :: sps).drop (i + 1) = sps.drop i := rfl
      rw [hl] at h
      have hv2 : ∀ j v, sps[j]? = some (.val v) → vals (k + 1 + j) = v := fun j v hj => by
        have := hv (j + 1) v (by simpa using hj)
        rwa [show k + (j + 1) = k + 1 + j by omega] at this
      cases s with
      | val v =>
        simp only [wpSq] at h
        obtain ⟨_, h2⟩ := h
        have hvk : vals k = v := hv 0 v (by simp)
        rw [hfr v hvk, hrest] at h2
        obtain ⟨F', f1, f2⟩ := wpSq_at vals i sps (k + 1) F hv2 h2 (by simpa using hi)
        refine ⟨F', fun w' S hF hA => f1 w' S hF fun j A d hj hs hd hS => ?_, ?_⟩
        · have := hA (j + 1) A d (by omega) (by simpa using hs) (by rw [show k + (j + 1) = k + 1 + j by omega]; exact hd) hS
          rwa [show k + (j + 1) = k + 1 + j by omega] at this
        · rw [hdr, show k + (i + 1) = k + 1 + i by omega]; exact f2
      | rel A0 =>
        simp only [wpSq] at h
        obtain ⟨_, _, _, h2⟩ := h
        have h2 := h2 (vals k)
        rw [hfr _ rfl, hrest] at h2
        obtain ⟨F', f1, f2⟩ := wpSq_at vals i sps (k + 1) _ hv2 h2 (by simpa using hi)
        refine ⟨F', fun w' S hF hA => f1 w' S ⟨hF, fun d hd hS => ?_⟩ fun j A d hj hs hd hS => ?_, ?_⟩
        · exact hA 0 (.rel A0) d (by omega) (by simp) (by simpa [ho] using hd) hS
        · have := hA (j + 1) A d (by omega) (by simpa using hs) (by rw [show k + (j + 1) = k + 1 + j by omega]; exact hd) hS
          rwa [show k + (j + 1) = k + 1 + j by omega] at this
        · rw [hdr, show k + (i + 1) = k + 1 + i by omega]; exact f2
      | app m0 A0 =>
        simp only [wpSq] at h
        obtain ⟨_, _, _, h2⟩ := h
        have h2 := h2 (vals k)
        rw [hfr _ rfl, hrest] at h2
        obtain ⟨F', f1, f2⟩ := wpSq_at vals i sps (k + 1) _ hv2 h2 (by simpa using hi)
        refine ⟨F', fun w' S hF hA => f1 w' S ⟨hF, fun d hd hS => ?_⟩ fun j A d hj hs hd hS => ?_, ?_⟩
        · exact hA 0 (.app m0 A0) d (by omega) (by simp) (by simpa [ho] using hd) hS
        · have := hA (j + 1) A d (by omega) (by simpa using hs) (by rw [show k + (j + 1) = k + 1 + j by omega]; exact hd) hS
          rwa [show k + (j + 1) = k + 1 + j by omega] at this
        · rw [hdr, show k + (i + 1) = k + 1 + i by omega]; exact f2
      | mrk A0 =>
        simp only [wpSq] at h
        obtain ⟨_, _, _, h2⟩ := h
        have h2 := h2 (vals k)
        rw [hfr _ rfl, hrest] at h2
        obtain ⟨F', f1, f2⟩ := wpSq_at vals i sps (k + 1) _ hv2 h2 (by simpa using hi)
        refine ⟨F', fun w' S hF hA => f1 w' S ⟨hF, fun d hd hS => ?_⟩ fun j A d hj hs hd hS => ?_, ?_⟩
        · exact hA 0 (.mrk A0) d (by omega) (by simp) (by simpa [ho] using hd) hS
        · have := hA (j + 1) A d (by omega) (by simpa using hs) (by rw [show k + (j + 1) = k + 1 + j by omega]; exact hd) hS
          rwa [show k + (j + 1) = k + 1 + j by omega] at this
        · rw [hdr, show k + (i + 1) = k + 1 + i by omega]; exact f2

theorem region_app {id : Nat} {l : List Oper} {Q : Exit → Act → World → Prop} {a : Act} {w : World} (n : Nat) (hm : P.follows .mixedOrders = true) (hB : (regB l.toArray n && Region.noSelect l.toArray && apartB l.toArray n) = true) (hN : dstsB l.toArray n a.tmps.size = true)
    (sps : List Sq) (hl : sps.length = n) (hg : gAll l.toArray w.heap.size sps 0 sps)
    (h : wpSq P l.toArray w (fun F a' => ∀ w', Own w w' [] → F w' (fun _ => True) → wpList P l.toArray Q (l.drop n) a' w') sps l (fun _ _ => True) a) : (Code.region id l.toArray true).wp P Q a w := by
  simp only [Bool.and_eq_true] at hB
  obtain ⟨⟨hB, hsel⟩, hap⟩ := hB
  have hN' := dstsB_spec hN
  have h' : wpSq P l.toArray w (fun F a' => ∀ w', Own w w' [] → F w' (fun _ => True) → wpList P l.toArray Q (l.drop n) a' w') sps (l.toArray.toList.drop 0) (fun _ _ => True) (frameAt l.toArray (fun _ => undef) a 0) := by simpa [frameAt] using h
  have hat : ∀ (vals : Nat → Value), (∀ j v, sps[j]? = some (.val v) → vals j = v) → ∀ i, i ≤ n → _ := fun vals hv i hi =>
    wpSq_at (P := P) (ops := l.toArray) (w := w) (a := a) vals i sps 0 (fun _ _ => True) (fun j v hj => by rw [Nat.zero_add]; exact hv j v hj) h' (by omega)
  -- the values that go with a frame
  let A : Nat → Asn := fun i => match sps[i]? with | some s => s.asn | none => fun _ _ => True
  let vof : Act → Nat → Value := fun a' j => match sps[j]? with | some (.val v) => v | _ => match (l.toArray[j]?).bind (·.dst) with | some d => a'.tmps.getD d undef | none => undef
  have hvof : ∀ a' j v, sps[j]? = some (.val v) → vof a' j = v := fun a' j v hj => by simp only [vof, hj]
  have hfr : ∀ (a' : Act) (w' : World) (i s : Nat), i ≤ n → asnAt l.toArray (fun s _ v => v = a.tmps.getD s undef) A i s w' (a'.tmps.getD s undef) → a'.tmps.getD s undef = (frameAt l.toArray (vof a') a i).tmps.getD s undef := by
    intro a' w' i s hi hasn
    refine asnAt_frame' i (fun j o d hj => hN' j o d (by omega)) (fun j hj hd hA => ?_) hasn
    have hjs : j < sps.length := by omega
    simp only [A, List.getElem?_eq_getElem hjs] at hA
    simp only [vof, List.getElem?_eq_getElem hjs, hd]
    cases hs : sps[j] with
    | val v => rw [hs] at hA; exact hA
    | rel A0 => rfl
    | app m0 A0 => rfl
    | mrk A0 => rfl
  have hF : ∀ (a' : Act) (w' : World) (i : Nat) (S : Nat → Prop), i ≤ n → (∀ s, S s → asnAt l.toArray (fun s _ v => v = a.tmps.getD s undef) A i s w' (a'.tmps.getD s undef)) →
      ∀ j s d, j < i → sps[j]? = some s → l.toArray[0 + j]?.bind (·.dst) = some d → S d → s.asn w' (vof a' (0 + j)) := by
    intro a' w' i S hi hS j s d hj hs hd hSd
    rw [Nat.zero_add] at hd ⊢
    have h1 := asnAt_of (A := A) hap hd i hi hj (hS d hSd)
    simp only [A, hs] at h1
    cases s with
    | val v => simp only [vof, hs]; rfl
    | rel A0 => simp only [vof, hs, hd]; exact h1
    | app m0 A0 => simp only [vof, hs, hd]; exact h1
    | mrk A0 => simp only [vof, hs, hd]; exact h1
  have hmono : ∀ k, k < n → Mono (A k) := by
    intro k hk
    have hks : k < sps.length := by omega
    obtain ⟨F', _, f2⟩ := hat (vof a) (hvof a) k (by omega)
    simp only [A, List.getElem?_eq_getElem hks]
    rw [List.drop_eq_getElem_cons hks] at f2
    cases hs : sps[k] with
    | val v => exact Sq.mono_val v
    | rel A0 =>
      rw [hs] at f2
      cases hd : l.toArray.toList.drop (0 + k) with
      | nil => rw [hd] at f2; exact f2.elim
      | cons o rest => rw [hd] at f2; exact f2.1
    | app m0 A0 =>
      rw [hs] at f2
      cases hd : l.toArray.toList.drop (0 + k) with
      | nil => rw [hd] at f2; exact f2.elim
      | cons o rest => rw [hd] at f2; exact f2.1
    | mrk A0 =>
      rw [hs] at f2
      cases hd : l.toArray.toList.drop (0 + k) with
      | nil => rw [hd] at f2; exact f2.elim
      | cons o rest => rw [hd] at f2; exact f2.1
  refine region_rel n hm hB hN' (fun _ w' => Own w w' []) A ((Own.refl w).drew) ?_ ?_
  · intro i o hi ho listed a' w' hcl _ hnl hJ hasn
    have his : i < sps.length := by omega
    have hio : i < l.toArray.toList.length := by have := (Array.getElem?_eq_some_iff.1 ho).1; simpa using this
    have heq : ∀ s ∈ o.looksAt l.toArray, a'.tmps.getD s undef = (frameAt l.toArray (vof a') a i).tmps.getD s undef := fun s hs => hfr a' w' i s (by omega) (hasn s hs)
    obtain ⟨F', f1, f2⟩ := hat (vof a') (hvof a') i (by omega)
    have hFw := f1 w' (fun s => s ∈ o.looksAt l.toArray) trivial (hF a' w' i _ (by omega) hasn)
    have hsel' := Region.noSelect_spec hsel
    have hexec : execOp a'.eval o = execOp (frameAt l.toArray (vof a') a i).eval o := execOp_congr o (fun cs b => hsel' i o cs b ho) (fun x hx => by
      cases x with
      | tmp t => exact heq t (List.mem_append_left _ (List.mem_filterMap.2 ⟨.tmp t, by simpa using hx, rfl⟩))
      | _ => rfl)
    rw [wanted_congr heq]
    rw [Nat.zero_add, List.drop_eq_getElem_cons his, List.drop_eq_getElem_cons hio] at f2
    have hoe : l.toArray.toList[i] = o := by
      have := (Array.getElem?_eq_some_iff.1 ho).2
      simpa using this
    rw [hoe] at f2
    obtain ⟨d, hd⟩ := apartB_some hap hi
    have hod : o.dst = some d := by simpa [ho] using hd
    have hdlt : d < (frameAt l.toArray (vof a') a i).tmps.size := by rw [frameAt_size]; exact hN' i o d hi ho hod
    simp only [A, List.getElem?_eq_getElem his]
    cases hs : sps[i] with
    | val v =>
      rw [hs] at f2
      obtain ⟨f2, _⟩ := f2
      have hq := f2 w' hJ hFw
      split at hq
      · rename_i hw
        rw [if_pos hw]
        unfold YieldsTo at hq ⊢
        rw [hexec]
        generalize (execOp (frameAt l.toArray (vof a') a i).eval o).run P w' = r at *
        cases r with
        | halt x w'' => exact hq.elim
        | ok nx w'' =>
          cases nx <;> simp only at hq ⊢
          case value x => exact ⟨hq.1, hJ.trans hq.2, fun k hk _ _ v h => hmono k hk _ _ _ hq.2 h⟩
          case skip => exact ⟨hq.1, hJ.trans hq.2, fun k hk _ _ v h => hmono k hk _ _ _ hq.2 h⟩
          case enter f args => exact hq.mono fun e w3 ⟨u, he, h1, h2⟩ => ⟨u, he, h1, hJ.trans h2, fun k hk _ _ v h => hmono k hk _ _ _ h2 h⟩
      · rename_i hw
        rw [if_neg hw]
        exact ⟨hq, hJ⟩
    | rel A0 =>
      rw [hs] at f2
      obtain ⟨_, hw, f3, _⟩ := f2
      rw [if_pos hw]
      have hy := f3 w' hJ hFw
      unfold YieldsTo at hy ⊢
      rw [hexec]
      generalize (execOp (frameAt l.toArray (vof a') a i).eval o).run P w' = r at *
      cases r with
      | halt x w'' => exact hy.elim
      | ok nx w'' =>
        cases nx <;> simp only at hy ⊢
        case value x => exact ⟨hy.2, hJ.trans hy.1, fun k hk _ _ v h => hmono k hk _ _ _ hy.1 h⟩
        case skip => exact ⟨hy.2, hJ.trans hy.1, fun k hk _ _ v h => hmono k hk _ _ _ hy.1 h⟩
        case enter f args => exact hy.mono fun e w3 ⟨v, he, h1, h2⟩ => ⟨v, he, h2, hJ.trans h1, fun k hk _ _ v h => hmono k hk _ _ _ h1 h⟩
    | app m0 A0 =>
      rw [hs] at f2
      obtain ⟨_, hw, f3, _⟩ := f2
      rw [if_pos hw]
      have hy := f3 w' hJ hFw
      have hpres : ∀ w'', Gr w.heap.size m0 w' w'' → ∀ k, k < n → k ≠ i → listed.getD k false = true → ∀ v, A k w' v → A k w'' v := by
        intro w'' hgr k hk hki hlk v hv
        have hks : k < sps.length := by omega
        have hrow := gAll_at sps 0 hg i m0 A0 (by rw [List.getElem?_eq_getElem his, hs])
        rw [Nat.zero_add] at hrow
        have h3 := gRow_at sps 0 hrow k sps[k] (List.getElem?_eq_getElem hks)
        rw [Nat.zero_add] at h3
        simp only [A, List.getElem?_eq_getElem hks] at hv ⊢
        rcases h3 with h3 | h3 | h3
        · exact absurd h3 hki
        · have := hcl k i h3 hlk
          rw [hnl] at this
          cases this
        · cases hsk : sps[k] with
          | val v0 => rw [hsk] at hv; exact hv
          | rel A1 => rw [hsk] at hv h3; exact h3 w' w'' v hgr hv
          | app m1 A1 => rw [hsk] at hv h3; exact h3 w' w'' v hgr hv
          | mrk A1 => rw [hsk] at hv h3; exact h3 w' w'' v hgr hv
      unfold YieldsTo at hy ⊢
      rw [hexec]
      generalize (execOp (frameAt l.toArray (vof a') a i).eval o).run P w' = r at *
      cases r with
      | halt x w'' => exact hy.elim
      | ok nx w'' =>
        cases nx <;> simp only at hy ⊢
        case value x => exact ⟨hy.2, hy.1.own hJ, hpres _ hy.1⟩
        case skip => exact ⟨hy.2, hy.1.own hJ, hpres _ hy.1⟩
        case enter f args => exact hy.mono fun e w3 ⟨v, he, h1, h2⟩ => ⟨v, he, h2, h1.own hJ, hpres _ h1⟩
    | mrk A0 =>
      rw [hs] at f2
      obtain ⟨_, hw, f3, _⟩ := f2
      rw [if_pos hw]
      have hy := f3 w' hJ hFw
      have hpres : ∀ w'', Mk w.heap.size w' w'' → ∀ k, k < n → k ≠ i → listed.getD k false = true → ∀ v, A k w' v → A k w'' v := by
        intro w'' hgr k hk hki hlk v hv
        have hks : k < sps.length := by omega
        have hrow := gAll_atM sps 0 hg i A0 (by rw [List.getElem?_eq_getElem his, hs])
        rw [Nat.zero_add] at hrow
        have h3 := mRow_at sps 0 hrow k sps[k] (List.getElem?_eq_getElem hks)
        rw [Nat.zero_add] at h3
        simp only [A, List.getElem?_eq_getElem hks] at hv ⊢
        rcases h3 with h3 | h3 | h3
        · exact absurd h3 hki
        · have := hcl k i h3 hlk
          rw [hnl] at this
          cases this
        · cases hsk : sps[k] with
          | val v0 => rw [hsk] at hv; exact hv
          | rel A1 => rw [hsk] at hv h3; exact h3 w' w'' v hgr hv
          | app m1 A1 => rw [hsk] at hv h3; exact h3 w' w'' v hgr hv
          | mrk A1 => rw [hsk] at hv h3; exact h3 w' w'' v hgr hv
      unfold YieldsTo at hy ⊢
      rw [hexec]
      generalize (execOp (frameAt l.toArray (vof a') a i).eval o).run P w' = r at *
      cases r with
      | halt x w'' => exact hy.elim
      | ok nx w'' =>
        cases nx <;> simp only at hy ⊢
        case value x => exact ⟨hy.2, hy.1.own hJ, hpres _ hy.1⟩
        case skip => exact ⟨hy.2, hy.1.own hJ, hpres _ hy.1⟩
        case enter f args => exact hy.mono fun e w3 ⟨v, he, h1, h2⟩ => ⟨v, he, h2, h1.own hJ, hpres _ h1⟩
  · intro listed a' w' _ hJ hs hd hasn
    have : a' = frameAt l.toArray (vof a') a n := by
      have h1 := frameAt_size (ops := l.toArray) (vals := vof a') (a := a) n
      have h2 := frameAt_defers (ops := l.toArray) (vals := vof a') (a := a) n
      have h3 : a'.tmps = (frameAt l.toArray (vof a') a n).tmps := by
        apply Array.ext
        · omega
        · intro j hj1 hj2
          have := hfr a' w' n j (Nat.le_refl _) (hasn j)
          simpa [hj1, hj2] using this
      generalize frameAt l.toArray (vof a') a n = fr at h2 h3
      obtain ⟨t1, d1⟩ := a'
      obtain ⟨t3, d3⟩ := fr
      simp only at h2 h3 hd
      rw [h3, hd, h2]
    obtain ⟨F', f1, f2⟩ := hat (vof a') (hvof a') n (Nat.le_refl _)
    have hFw := f1 w' (fun _ => True) trivial (hF a' w' n _ (Nat.le_refl _) (fun s _ => hasn s))
    have hd0 : sps.drop n = [] := List.drop_of_length_le (by omega)
    rw [hd0] at f2
    simp only [wpSq] at f2
    rw [Nat.zero_add, ← this] at f2
    simpa using f2 w' hJ hFw

/-! ### The steps -/
variable {w : World} {K : (World → (Nat → Prop) → Prop) → Act → Prop} {sps : List Sq} {o : Oper} {rest : List Oper} {F : World → (Nat → Prop) → Prop} {a : Act} {v : Value}

/-- an operation that hangs on no world: it is walked as in a quiet region -/
theorem sq_val (h1 : ∀ w', Own w w' [] → F w' (fun s => s ∈ o.looksAt ops) → wpQuiet P ops (fun w'' => w'' = w') (fun a' => a' = a.put o.dst v) [o] a) (hd : ∃ d, o.dst = some d ∧ d < a.tmps.size)
    (h2 : wpSq P ops w K sps rest F (a.put o.dst v)) : wpSq P ops w K (.val v :: sps) (o :: rest) F a := by
  refine ⟨fun w' hw' hF => ?_, h2⟩
  obtain ⟨d, hd1, hd2⟩ := hd
  have hput : ∀ u, a.put o.dst u = a.put o.dst v → u = v := by
    intro u hu
    have := congrArg (fun x : Act => x.tmps[d]?) hu
    simpa [Act.put, hd1, hd2] using this
  have hq := h1 w' hw' hF
  unfold wpQuiet at hq
  split at hq
  · rename_i hw
    rw [if_pos hw]
    obtain ⟨u, hu1, hu2⟩ := hq
    obtain rfl := hput u hu2
    have hq' := hu1 w' rfl
    unfold Oper.quietAt at hq'
    unfold YieldsTo
    generalize (execOp a.eval o).run P w' = r at *
    cases r with
    | halt x w'' => exact hq'.elim
    | ok nx w'' =>
      cases nx <;> simp only [Oper.quietUpon] at hq' ⊢
      case value x => obtain ⟨rfl, rfl⟩ := hq'; exact ⟨rfl, Own.refl _⟩
      case skip => obtain ⟨rfl, hv⟩ := hq'; exact ⟨hv.symm, Own.refl _⟩
      case enter f args =>
        obtain ⟨rfl, hc⟩ := hq'
        exact hc.mono fun e w3 ⟨he, hc3⟩ => ⟨_, he, rfl, by rw [hc3]; exact Own.refl _⟩
  · rename_i hw
    rw [if_neg hw]
    exact hput _ hq

/-- an operation whose value is known by a run lemma -/
theorem sq_run (hw : Region.wanted o (yielded ops a.tmps) = true) (hrun : ∀ w', Own w w' [] → F w' (fun s => s ∈ o.looksAt ops) → (execOp a.eval o).run P w' = .ok (.value v) w')
    (h2 : wpSq P ops w K sps rest F (a.put o.dst v)) : wpSq P ops w K (.val v :: sps) (o :: rest) F a := by
  refine ⟨fun w' hw' hF => ?_, h2⟩
  rw [if_pos hw]
  exact yieldsTo_val (hrun w' hw' hF) ⟨rfl, Own.refl _⟩

theorem sq_skip (hw : Region.wanted o (yielded ops a.tmps) = false) (h2 : wpSq P ops w K sps rest F (a.put o.dst undef)) : wpSq P ops w K (.val undef :: sps) (o :: rest) F a := by
  refine ⟨fun w' hw' hF => ?_, h2⟩
  rw [if_neg (by rw [hw]; exact Bool.false_ne_true)]

/-- a call whose value is known -/
theorem sq_call (hw : Region.wanted o (yielded ops a.tmps) = true) {f : Nat} {args : Array Value} (hrun : ∀ w', (execOp a.eval o).run P w' = .ok (.enter f args) w')
    (h1 : ∀ w', Own w w' [] → F w' (fun s => s ∈ o.looksAt ops) → Calls P f args w' fun e w'' => e = .returned v ∧ Own w' w'' [])
    (h2 : wpSq P ops w K sps rest F (a.put o.dst v)) : wpSq P ops w K (.val v :: sps) (o :: rest) F a := by
  refine ⟨fun w' hw' hF => ?_, h2⟩
  rw [if_pos hw]
  unfold YieldsTo
  rw [hrun w']
  exact (h1 w' hw' hF).mono fun e w'' ⟨he, h⟩ => ⟨_, he, rfl, h⟩

/-- a call of a function that the source names -/
theorem sq_callN (hw : Region.wanted o (yielded ops a.tmps) = true) {f : Nat} {fn : Func} {xs : Array Operand} {ats : Array TypeId} {args : Array Value} (hop : o.op = .call { callee := .value (.func f), args := xs, argTypes := ats }) (hargs : xs.map a.eval = args)
    (hf : P.funcs[f]? = some fn) (hname : (fn.name == "runtime.NumGoroutine") = false) (hb : fn.body.isNone = false)
    (h1 : ∀ w', Own w w' [] → F w' (fun s => s ∈ o.looksAt ops) → Calls P f args w' fun e w'' => e = .returned v ∧ Own w' w'' [])
    (h2 : wpSq P ops w K sps rest F (a.put o.dst v)) : wpSq P ops w K (.val v :: sps) (o :: rest) F a :=
  sq_call hw (fun w' => by rw [Conc.run_call_body hop hf hname hb, hargs]) h1 h2

/-- an operation whose value is known by an assertion -/
theorem sq_rel {A : World → Value → Prop} (hm : Mono A) (hw : Region.wanted o (yielded ops a.tmps) = true) (h1 : ∀ w', Own w w' [] → F w' (fun s => s ∈ o.looksAt ops) → YieldsTo P o a w' (fun v w'' => Own w' w'' [] ∧ A w'' v))
    (h2 : ∀ v, wpSq P ops w K sps rest (fun w' S => F w' S ∧ ∀ d, o.dst = some d → S d → A w' v) (a.put o.dst v)) : wpSq P ops w K (.rel A :: sps) (o :: rest) F a := ⟨hm, hw, h1, h2⟩

/-- a slice literal -/
theorem sq_lit {t el : TypeId} {len : Nat} {parts : Array (Nat × Operand)} (hg : o.guard = none) (ho : o.op = .buildSlice t len parts) {cs : List Value} (hl : len = cs.length)
    (hf : ∀ w', (Instr.buildSlice t len (parts.map fun (i, x) => (i, a.eval x))).run P w' = .ok (.slice (some ⟨w'.heap.size, 0, none⟩) len len) (w'.alloc (.cells cs.toArray el)))
    (h2 : ∀ v, wpSq P ops w K sps rest (fun w' S => F w' S ∧ ∀ d, o.dst = some d → S d → SlIs len cs w' v) (a.put o.dst v)) : wpSq P ops w K (.rel (SlIs len cs) :: sps) (o :: rest) F a := by
  refine sq_rel (SlIs.mono _ _) (by simp [Region.wanted, hg]) (fun w' hw' hF => ?_) h2
  obtain ⟨n, w1, hr, hn, ho1⟩ := rn_buildSlice (o := o) (a := a) (Own.refl w') ho hf
  refine yieldsTo_val' hr ⟨ho1.end0 (by simpa using hn), ⟨_, _, rfl⟩, ?_⟩
  subst hl
  exact Or.inr ⟨n, 0, cs.length, rfl, ⟨Nat.le_refl _, List.eq_nil_of_length_eq_zero⟩, fun i x hx => by rw [ho1.cell (.head _), Nat.zero_add]; exact hx⟩

theorem sq_nil (h : K F a) {l : List Oper} : wpSq P ops w K [] l F a := by
  cases l <;> exact h

theorem sq_app {m : Nat} {A : World → Value → Prop} (hm : Mono A) (hw : Region.wanted o (yielded ops a.tmps) = true) (h1 : ∀ w', Own w w' [] → F w' (fun s => s ∈ o.looksAt ops) → YieldsTo P o a w' (fun v w'' => Gr w.heap.size m w' w'' ∧ A w'' v))
    (h2 : ∀ v, wpSq P ops w K sps rest (fun w' S => F w' S ∧ ∀ d, o.dst = some d → S d → A w' v) (a.put o.dst v)) : wpSq P ops w K (.app m A :: sps) (o :: rest) F a := ⟨hm, hw, h1, h2⟩

theorem sq_mrk {A : World → Value → Prop} (hm : Mono A) (hw : Region.wanted o (yielded ops a.tmps) = true) (h1 : ∀ w', Own w w' [] → F w' (fun s => s ∈ o.looksAt ops) → YieldsTo P o a w' (fun v w'' => Mk w.heap.size w' w'' ∧ A w'' v))
    (h2 : ∀ v, wpSq P ops w K sps rest (fun w' S => F w' S ∧ ∀ d, o.dst = some d → S d → A w' v) (a.put o.dst v)) : wpSq P ops w K (.mrk A :: sps) (o :: rest) F a := ⟨hm, hw, h1, h2⟩

/-- a call whose value is known by an assertion -/
theorem sq_callR {A : World → Value → Prop} (hm : Mono A) (hw : Region.wanted o (yielded ops a.tmps) = true) {f : Nat} {fn : Func} {xs : Array Operand} {ats : Array TypeId} {args : Array Value} (hop : o.op = .call { callee := .value (.func f), args := xs, argTypes := ats }) (hargs : xs.map a.eval = args)
    (hf : P.funcs[f]? = some fn) (hname : (fn.name == "runtime.NumGoroutine") = false) (hb : fn.body.isNone = false)
    (h1 : ∀ w', Own w w' [] → F w' (fun s => s ∈ o.looksAt ops) → Calls P f args w' fun e w'' => ∃ r, e = .returned r ∧ A w'' r ∧ Own w' w'' [])
    (h2 : ∀ v, wpSq P ops w K sps rest (fun w' S => F w' S ∧ ∀ d, o.dst = some d → S d → A w' v) (a.put o.dst v)) : wpSq P ops w K (.rel A :: sps) (o :: rest) F a := by
  refine sq_rel hm hw (fun w' hw' hF => ?_) h2
  unfold YieldsTo
  rw [Conc.run_call_body hop hf hname hb, hargs]
  exact (h1 w' hw' hF).mono fun e w'' ⟨r, he, hA, ho⟩ => ⟨r, he, ho, hA⟩

end
end Go.Proofs.Ytjcnhpnadfhjaaa
