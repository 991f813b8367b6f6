/- A region that draws its order and stores once into a block of the call's own; behind it the operations whose order is forced (a swap). No dump, no condition. -/
import Derived.Test.YtjcnhpnadfhjaaaBufV
namespace Go.Proofs.Ytjcnhpnadfhjaaa
open Go.RowKit

def moveB (o : Oper) : Bool := match o.op, o.guard with | .move _, none => true | _, _ => false

def putB (ops : Array Oper) (m : Nat) : Bool :=
  (match ops[m]? with | some o => o.dst.isNone && o.guard.isNone | none => false) && (List.range m).all fun i => waitsB ops m i || ((List.range m).any fun k => waitsB ops m k && waitsB ops k i) || (match ops[i]? with | some o => moveB o | none => false)

def Sp.valB : Sp → Bool
  | .val _ => true
  | .rel _ => false

def Sp.get : Option Sp → Value
  | some (.val v) => v
  | _ => undef

theorem Code.move_any {P : Program} {o : Oper} (h : moveB o = true) {a : Act} {w w1 : World} {v : Value} (hy : YieldsTo P o a w (fun v' w'' => v' = v ∧ Own w w'' [])) : YieldsTo P o a w1 (fun v' w'' => v' = v ∧ w'' = w1) := by
  unfold moveB at h
  split at h
  · rename_i x ho hg
    unfold YieldsTo execOp at hy ⊢
    simp only [ho] at hy ⊢
    first
      | exact ⟨hy.1, rfl⟩
      | (simp only [Sem.run_bind, Sem.run_pure, Result.andThen_ok] at hy ⊢; exact ⟨hy.1, rfl⟩)
  · cases h

section
variable {P : Program}

theorem region_put {id : Nat} {l : List Oper} {Q : Exit → Act → World → Prop} {a : Act} {w : World} (m : Nat) (hm : P.follows .mixedOrders = true) (hB : (regB l.toArray (m + 1) && Region.noSelect l.toArray && apartB l.toArray m && putB l.toArray m) = true) (hN : dstsB l.toArray (m + 1) a.tmps.size = true)
    (sps : List Sp) (hl : sps.length = m) (hv : sps.all Sp.valB = true) (St : World → World → Prop)
    (h : wpSp P l.toArray w (fun _ a' => (∀ o, l[m]? = some o → ∀ w', Own w w' [] → YieldsTo P o a' w' (fun v w'' => v = undef ∧ St w' w'')) ∧
      ∀ w1 w2 w', Own w w1 [] → St w1 w2 → Own w2 w' [] → wpList P l.toArray Q (l.drop (m + 1)) a' w') sps l (fun _ _ => True) a) : (Code.region id l.toArray true).wp P Q a w := by
  simp only [Bool.and_eq_true] at hB
  obtain ⟨⟨⟨hB, hsel⟩, hap⟩, hput⟩ := hB
  have hN' := dstsB_spec hN
  have h' : wpSp P l.toArray w (fun _ a' => (∀ o, l[m]? = some o → ∀ w', Own w w' [] → YieldsTo P o a' w' (fun v w'' => v = undef ∧ St w' w'')) ∧
      ∀ w1 w2 w', Own w w1 [] → St w1 w2 → Own w2 w' [] → wpList P l.toArray Q (l.drop (m + 1)) a' w') sps (l.toArray.toList.drop 0) (fun _ _ => True) (frameAt l.toArray (fun _ => undef) a 0) := by simpa [frameAt] using h
  obtain ⟨vals, hvd⟩ : ∃ vals : Nat → Value, vals = fun j => Sp.get sps[j]? := ⟨_, rfl⟩
  have hvals : ∀ j v, sps[j]? = some (.val v) → vals j = v := fun j v hj => by rw [hvd]; simp only [hj, Sp.get]
  have hnone : vals m = undef := by
    rw [hvd]
    simp only [List.getElem?_eq_none (show sps.length ≤ m by omega), Sp.get]
  have hallv : ∀ j s, sps[j]? = some s → ∃ v, s = Sp.val v := fun j s hj => by
    have := List.all_eq_true.1 hv s (List.mem_of_getElem? hj)
    cases s with
    | val v => exact ⟨v, rfl⟩
    | rel A => cases this
  have hat : ∀ i, i ≤ m → _ := fun i hi =>
    wpSp_at (P := P) (ops := l.toArray) (w := w) (a := a) vals i sps 0 (fun _ _ => True) (fun j v hj => by rw [Nat.zero_add]; exact hvals j v hj) h' (by omega)
  have hF : ∀ (w' : World) (S : Nat → Prop) (i : Nat) (j : Nat) (A0 : World → Value → Prop) (d : Nat), j < i → sps[j]? = some (.rel A0) → l.toArray[0 + j]?.bind (·.dst) = some d → S d → A0 w' (vals (0 + j)) := fun _ _ _ j A0 _ _ hs _ _ => by
    obtain ⟨v, hv'⟩ := hallv j _ hs
    cases hv'
  simp only [putB, Bool.and_eq_true, List.all_eq_true, List.mem_range, Bool.or_eq_true] at hput
  obtain ⟨hput1, hput2⟩ := hput
  obtain ⟨om, hom, hdm, hgm⟩ : ∃ om, l.toArray[m]? = some om ∧ om.dst = none ∧ om.guard = none := by
    cases ho : l.toArray[m]? with
    | none => simp [ho] at hput1
    | some om => simp [ho] at hput1; exact ⟨om, rfl, hput1.1, hput1.2⟩
  refine region_rel (m + 1) hm hB hN' (fun listed w' => listed.size = l.toArray.size ∧ if listed.getD m false = true then ∃ w1 w2, Own w w1 [] ∧ St w1 w2 ∧ Own w2 w' [] else Own w w' []) (fun i _ v => v = vals i) (by
    refine ⟨Array.size_replicate .., ?_⟩
    rw [if_neg (by rw [getD_replicate_false']; exact Bool.false_ne_true)]
    exact (Own.refl w).drew) ?_ ?_
  · intro i o hi ho listed a' w' hcl hwt hli hJ hasn
    obtain ⟨hlsz, hJ⟩ := hJ
    have hlsz2 : (listed.setIfInBounds i true).size = l.toArray.size := by rw [Array.size_setIfInBounds]; exact hlsz
    have hsel' := Region.noSelect_spec hsel
    have heq : ∀ s ∈ o.looksAt l.toArray, a'.tmps.getD s undef = (frameAt l.toArray vals a i).tmps.getD s undef := fun s hs => asnAt_frame i (fun j o d hj => hN' j o d (by omega)) (hasn s hs)
    have hexec : execOp a'.eval o = execOp (frameAt l.toArray vals a i).eval o := execOp_congr o (fun cs b => hsel' i o cs b ho) (fun x hx => by
      cases x with
      | tmp t => exact heq t (List.mem_append_left _ (List.mem_filterMap.2 ⟨.tmp t, by simpa using hx, rfl⟩))
      | _ => rfl)
    rw [wanted_congr heq]
    by_cases him : i = m
    · subst him
      rw [hom] at ho
      cases ho
      rw [if_neg (by rw [hli]; exact Bool.false_ne_true)] at hJ
      rw [if_pos (by simp [Region.wanted, hgm])]
      obtain ⟨F', _, f2⟩ := hat i (Nat.le_refl _)
      have hd0 : sps.drop i = [] := List.drop_of_length_le (by omega)
      rw [hd0] at f2
      simp only [wpSp] at f2
      rw [Nat.zero_add] at f2
      have hom' : l[i]? = some om := by simpa using hom
      have hq := f2.1 om hom' w' hJ
      have hsz : i < listed.size := by
        rw [hlsz]; exact (Array.getElem?_eq_some_iff.1 hom).1
      unfold YieldsTo at hq ⊢
      rw [hexec]
      have hset : (listed.setIfInBounds i true).getD i false = true := by rw [getD_setT, if_pos ⟨rfl, hsz⟩]
      generalize (execOp (frameAt l.toArray vals a i).eval om).run P w' = r at *
      cases r with
      | halt x w'' => exact hq.elim
      | ok nx w'' =>
        cases nx <;> simp only at hq ⊢
        case value x => exact ⟨hq.1.trans hnone.symm, ⟨hlsz2, by rw [if_pos hset]; exact ⟨w', w'', hJ, hq.2, Own.refl _⟩⟩, fun _ _ _ _ _ h => h⟩
        case skip => exact ⟨hnone.symm, ⟨hlsz2, by rw [if_pos hset]; exact ⟨w', w'', hJ, hq.2, Own.refl _⟩⟩, fun _ _ _ _ _ h => h⟩
        case enter f args => exact hq.mono fun e w3 ⟨u, he, h1, h2⟩ => ⟨u, he, h1.trans hnone.symm, ⟨hlsz2, by rw [if_pos hset]; exact ⟨w', w3, hJ, h2, Own.refl _⟩⟩, fun _ _ _ _ _ h => h⟩
    · have hilt : i < m := by omega
      have his : i < sps.length := by omega
      have hio : i < l.toArray.toList.length := by have := (Array.getElem?_eq_some_iff.1 ho).1; simpa using this
      obtain ⟨F', f1, f2⟩ := hat i (by omega)
      have hFw : ∀ w', F' w' (fun s => s ∈ o.looksAt l.toArray) := fun w' => f1 w' _ trivial (hF w' _ i)
      rw [Nat.zero_add, List.drop_eq_getElem_cons his, List.drop_eq_getElem_cons hio] at f2
      have hoe : l.toArray.toList[i] = o := by
        have := (Array.getElem?_eq_some_iff.1 ho).2
        simpa using this
      rw [hoe] at f2
      obtain ⟨v, hs⟩ := hallv i _ (List.getElem?_eq_getElem his)
      have hvi : vals i = v := hvals i v (by rw [List.getElem?_eq_getElem his, hs])
      rw [hs] at f2
      obtain ⟨f2, _⟩ := f2
      have hset : (listed.setIfInBounds i true).getD m false = listed.getD m false := by rw [getD_setT, if_neg (fun h => him h.1)]
      rw [hset]
      by_cases hlm : listed.getD m false = true
      · rw [if_pos hlm] at hJ
        have hmv : moveB o = true := by
          rcases hput2 i hilt with (h | h) | h
          · exact absurd (hcl m i h hlm) (by rw [hli]; exact Bool.false_ne_true)
          · obtain ⟨k, _, hk⟩ := List.any_eq_true.1 h
            rw [Bool.and_eq_true] at hk
            exact absurd (hcl k i hk.2 (hcl m k hk.1 hlm)) (by rw [hli]; exact Bool.false_ne_true)
          · rw [ho] at h; exact h
        have hgo : o.guard = none := by
          unfold moveB at hmv
          split at hmv
          · assumption
          · cases hmv
        have hw1 : Region.wanted o (yielded l.toArray (frameAt l.toArray vals a i).tmps) = true := by simp [Region.wanted, hgo]
        rw [if_pos hw1]
        have hq := f2 w (Own.refl w) (hFw w)
        rw [if_pos hw1] at hq
        have hq' := Code.move_any (w1 := w') hmv hq
        obtain ⟨w1, w2, j1, j2, j3⟩ := hJ
        unfold YieldsTo at hq' ⊢
        rw [hexec]
        generalize (execOp (frameAt l.toArray vals a i).eval o).run P w' = r at *
        cases r with
        | halt x w'' => exact hq'.elim
        | ok nx w'' =>
          cases nx <;> simp only at hq' ⊢
          case value x => obtain ⟨q1, rfl⟩ := hq'; exact ⟨q1.trans hvi.symm, ⟨hlsz2, by rw [if_pos hlm]; exact ⟨w1, w2, j1, j2, j3⟩⟩, fun _ _ _ _ _ h => h⟩
          case skip => obtain ⟨q1, rfl⟩ := hq'; exact ⟨q1.trans hvi.symm, ⟨hlsz2, by rw [if_pos hlm]; exact ⟨w1, w2, j1, j2, j3⟩⟩, fun _ _ _ _ _ h => h⟩
          case enter f args => exact hq'.mono fun e w3 ⟨u, he, h1, h2⟩ => ⟨u, he, h1.trans hvi.symm, by rw [h2, if_pos hlm]; exact ⟨hlsz2, w1, w2, j1, j2, j3⟩, fun _ _ _ _ _ h => h⟩
      · rw [if_neg hlm] at hJ
        have hq := f2 w' hJ (hFw w')
        split at hq
        · rename_i hw
          rw [if_pos hw]
          unfold YieldsTo at hq ⊢
          rw [hexec]
          generalize (execOp (frameAt l.toArray vals a i).eval o).run P w' = r at *
          cases r with
          | halt x w'' => exact hq.elim
          | ok nx w'' =>
            cases nx <;> simp only at hq ⊢
            case value x => exact ⟨hq.1.trans hvi.symm, ⟨hlsz2, by rw [if_neg hlm]; exact hJ.trans hq.2⟩, fun _ _ _ _ _ h => h⟩
            case skip => exact ⟨hq.1.trans hvi.symm, ⟨hlsz2, by rw [if_neg hlm]; exact hJ.trans hq.2⟩, fun _ _ _ _ _ h => h⟩
            case enter f args => exact hq.mono fun e w3 ⟨u, he, h1, h2⟩ => ⟨u, he, h1.trans hvi.symm, ⟨hlsz2, by rw [if_neg hlm]; exact hJ.trans h2⟩, fun _ _ _ _ _ h => h⟩
        · rename_i hw
          rw [if_neg hw]
          exact ⟨hq.trans hvi.symm, hlsz2, by rw [if_neg hlm]; exact hJ⟩
  · intro listed a' w' hall hJ hs hd hasn
    obtain ⟨_, hJ⟩ := hJ
    rw [if_pos (hall m (by omega))] at hJ
    have hfm : frameAt l.toArray vals a (m + 1) = frameAt l.toArray vals a m := by
      simp only [frameAt, hom, Option.bind_some, hdm]
      rfl
    have : a' = frameAt l.toArray vals a m := by
      rw [← hfm]
      have h1 := frameAt_size (ops := l.toArray) (vals := vals) (a := a) (m + 1)
      have h2 := frameAt_defers (ops := l.toArray) (vals := vals) (a := a) (m + 1)
      have h3 : a'.tmps = (frameAt l.toArray vals a (m + 1)).tmps := by
        apply Array.ext
        · omega
        · intro j hj1 hj2
          have := asnAt_frame (s := j) (m + 1) hN' (hasn j)
          simpa [hj1, hj2] using this
      obtain ⟨t1, d1⟩ := a'
      generalize frameAt l.toArray vals a (m + 1) = fr at h2 h3
      obtain ⟨t3, d3⟩ := fr
      simp only at h2 h3 hd
      rw [h3, hd, h2]
    obtain ⟨F', _, f2⟩ := hat m (Nat.le_refl _)
    have hd0 : sps.drop m = [] := List.drop_of_length_le (by omega)
    rw [hd0] at f2
    simp only [wpSp] at f2
    rw [Nat.zero_add, ← this] at f2
    obtain ⟨w1, w2, j1, j2, j3⟩ := hJ
    simpa using f2.2 w1 w2 w' j1 j2 j3

end
section
variable {P : Program} {ops : Array Oper} {rest : List Oper} {o : Oper} {a : Act} {w w0 : World} {Q : Exit → Act → World → Prop} {L L' : List Ent} {e : TypeId} {v : Value} {sz n c g : Nat} {cs : List Value}

/-- a literal of one's own -/
theorem BufV.lit {b : Nat} (H : Own w0 w ((b, cs, e) :: L)) (hb : w0.heap.size ≤ b) (hl : cs.length = n * sz) (hm : n ≤ 140737488355328) : BufV e sz w0 w L (.slice (some ⟨b, 0, none⟩) n n) n cs := by
  refine ⟨[(b, cs, e)], ⟨hl, Or.inr ⟨b, n, cs, rfl, rfl, Nat.le_refl _, Nat.le_trans hm (by decide), hl, List.take_of_length_le (by omega)⟩⟩, H, by simpa using hb⟩

theorem BufV.addr {p : Option Addr} (E : BufV e sz w0 w L (.slice p n c) n cs) (hn : 0 < n) : ∃ g, p = some ⟨g, 0, none⟩ := by
  obtain ⟨Lv, ⟨_, ⟨hv, h2, _⟩ | ⟨g, cap, cs', hv, _⟩⟩, _⟩ := E
  · omega
  · cases hv; exact ⟨g, rfl⟩

/-- a store into a slice of one's own -/
theorem rn_storeV (E : BufV e 1 w0 w L (.slice (some ⟨g, 0, none⟩) n c) n cs) {ty : TypeId} {x y : Operand} (ho : o.op = .store ty x y) {i : Nat} (hx : a.eval x = .pointer (some ⟨g, i, none⟩)) {u : Value} (hy : a.eval y = u)
    (hs : (P.info? ty).map (·.size) = some 1) (hi : i < n) (h1 : u.oneCell' = true) :
    ∃ w', (execOp a.eval o).run P w = .ok .skip w' ∧ BufV e 1 w0 w' L (.slice (some ⟨g, 0, none⟩) n c) n (cs.set i u) := by
  obtain ⟨Lv, ⟨hlen, hcase⟩, H, hd⟩ := E
  rcases hcase with ⟨hv, _⟩ | ⟨g', cap, cs', hv, rfl, hn, hcap, hcl, htk⟩
  · cases hv
  · cases hv
    obtain ⟨w', hr, H'⟩ := rn_store (L' := (g, cs'.set i u, e) :: L) H ho hx hy hs .head (by omega) h1
    exact ⟨w', hr, [(g, cs'.set i u, e)], ⟨by rw [List.length_set]; exact hlen, Or.inr ⟨g, c, _, rfl, rfl, hn, hcap, by rw [List.length_set]; exact hcl, by rw [← htk, List.take_set]⟩⟩, H', hd⟩

theorem st_storeV (hg : o.guard = none) (E : BufV e 1 w0 w L (.slice (some ⟨g, 0, none⟩) n c) n cs) {ty : TypeId} {x y : Operand} (ho : o.op = .store ty x y) {i : Nat} (hx : a.eval x = .pointer (some ⟨g, i, none⟩)) {u : Value} (hy : a.eval y = u)
    (hs : (P.info? ty).map (·.size) = some 1) (hi : i < n) (h1 : u.oneCell' = true)
    (h : ∀ w', BufV e 1 w0 w' L (.slice (some ⟨g, 0, none⟩) n c) n (cs.set i u) → wpList P ops Q rest (a.put o.dst undef) w') : wpList P ops Q (o :: rest) a w := by
  obtain ⟨w', hrun, E'⟩ := rn_storeV E ho hx hy hs hi h1
  exact wpList_plain hg fun K hK => by unfold Oper.wp; rw [hrun, Oper.upon_skip]; exact hK _ _ (h w' E')

end

theorem OldL.sub1 {w : World} {v : Value} {ls : List (Value × List Int)} (h : OldL w v ls) {p : Option Addr} {c m : Nat} (hb : SlAt w (.slice p m c) m (((ls.map (·.1)).drop 1).take m) ∧ ∀ k, blk (Value.slice p m c) = some k → blk v = some k) (hm : m = ls.length - 1) : OldL w (.slice p m c) (ls.drop 1) := by
  have hl : (ls.drop 1).length = m := by rw [List.length_drop, hm]
  have e : ((ls.map (·.1)).drop 1).take m = (ls.drop 1).map (·.1) := by
    rw [List.map_drop, List.take_of_length_le (by rw [List.length_drop, List.length_map]; omega)]
  refine ⟨by rw [hl, ← e]; exact hb.1, fun k hk => h.lt k (hb.2 k hk), fun i x hx => ?_⟩
  rw [List.getElem?_drop] at hx
  exact h.el _ x hx

/-- two elements changed -/
def swp {α : Type} (ls : List α) (x y : Nat) (p q : α) : List α := (ls.set x q).set y p
theorem map_swp (ls : List (Value × List Int)) (x y : Nat) (p q : Value × List Int) : ((ls.map (·.1)).set x q.1).set y p.1 = (swp ls x y p q).map (·.1) := by
  simp [swp, List.map_set]
theorem length_swp {α : Type} (ls : List α) (x y : Nat) (p q : α) : (swp ls x y p q).length = ls.length := by simp [swp]
theorem swp_mem {α : Type} {ls : List α} {x y i : Nat} {p q r : α} (hp : p ∈ ls) (hq : q ∈ ls) (h : (swp ls x y p q)[i]? = some r) : r ∈ ls := by
  have h1 := List.mem_of_getElem? h
  unfold swp at h1
  rcases List.mem_or_eq_of_mem_set h1 with h2 | rfl
  · rcases List.mem_or_eq_of_mem_set h2 with h3 | rfl
    · exact h3
    · exact hq
  · exact hp
theorem OldL.swap {w0 w1 w : World} {v m : Value} {ls : List (Value × List Int)} (h : OldL w1 v ls) (ho : Own w1 w []) {x y n : Nat} {p q : Value × List Int} (hp : ls[x]? = some p) (hq : ls[y]? = some q)
    {e : TypeId} (B : BufV e 1 w0 w [] m n ((swp ls x y p q).map (·.1))) (hn : n = ls.length) : OldL w m (swp ls x y p q) := by
  refine ⟨by rw [length_swp, ← hn]; exact B.slAt, B.lt, fun i r hr => ?_⟩
  have hm := swp_mem (List.mem_of_getElem? hp) (List.mem_of_getElem? hq) hr
  obtain ⟨j, hj, rfl⟩ := List.getElem_of_mem hm
  have := h.el j _ (List.getElem?_eq_getElem hj)
  exact ⟨this.1.mv ho (by simp), this.2⟩

theorem yieldsTo_skip {P : Program} {o : Oper} {a : Act} {w w' : World} {R : Value → World → Prop} (hrun : (execOp a.eval o).run P w = .ok .skip w') (h : R undef w') : YieldsTo P o a w R := by
  unfold YieldsTo; rw [hrun]; exact h

theorem yields_storeV {P : Program} {o : Oper} {a : Act} {e : TypeId} {w0 w : World} {L : List Ent} {g n c : Nat} {cs : List Value} (E : BufV e 1 w0 w L (.slice (some ⟨g, 0, none⟩) n c) n cs) {ty : TypeId} {x y : Operand} (ho : o.op = .store ty x y) {i : Nat} (hx : a.eval x = .pointer (some ⟨g, i, none⟩)) {u : Value} (hy : a.eval y = u)
    (hs : (P.info? ty).map (·.size) = some 1) (hi : i < n) (h1 : u.oneCell' = true) : YieldsTo P o a w (fun v w2 => v = undef ∧ BufV e 1 w0 w2 L (.slice (some ⟨g, 0, none⟩) n c) n (cs.set i u)) := by
  obtain ⟨w', hr, E'⟩ := rn_storeV E ho hx hy hs hi h1
  exact yieldsTo_skip hr ⟨rfl, E'⟩

theorem BufV.cellAt {e : TypeId} {w0 w : World} {L : List Ent} {g n c : Nat} {cs : List Value} (E : BufV e 1 w0 w L (.slice (some ⟨g, 0, none⟩) n c) n cs) {i : Nat} {u : Value} (hu : cs[i]? = some u) : w.cell? ⟨g, 0 + (i : Int).toNat * 1, none⟩ = some u := by
  rcases E.slAt with ⟨⟨p, hv⟩, _, h0⟩ | ⟨b, off, cap, hv, _, hc⟩
  · rw [h0] at hu; cases hu
  · cases hv
    have := hc i u hu
    simpa using this

theorem OldL.oneCell {w : World} {v : Value} {ls : List (Value × List Int)} (h : OldL w v ls) : ∀ d ∈ ls.map (·.1), d.oneCell' = true := by
  intro d hd
  obtain ⟨x, hx, rfl⟩ := List.mem_map.1 hd
  obtain ⟨i, hi, rfl⟩ := List.getElem_of_mem hx
  obtain ⟨p, c, h1⟩ := (h.el i _ (List.getElem?_eq_getElem hi)).2.1
  rw [h1]; rfl

end Go.Proofs.Ytjcnhpnadfhjaaa
