/- chirographlaw20.ChunkForms: the walk. -/
import Derived.Test.YtjcnhpnadfhjaaaChk
namespace Go.Proofs.Ytjcnhpnadfhjaaa
open Go.RowKit

theorem six_at {n : Nat} (h : n < 6) : ∃ z : Nat, z ≤ 300 ∧ [Value.int .i64 0, .int .i64 1, .int .i64 255, .int .i64 256, .int .i64 257, .int .i64 300][n]? = some (.int .i64 (z : Int)) := by
  match n, h with
  | 0, _ => exact ⟨0, by omega, rfl⟩
  | 1, _ => exact ⟨1, by omega, rfl⟩
  | 2, _ => exact ⟨255, by omega, rfl⟩
  | 3, _ => exact ⟨256, by omega, rfl⟩
  | 4, _ => exact ⟨257, by omega, rfl⟩
  | 5, _ => exact ⟨300, by omega, rfl⟩

theorem size_int : (Try.prog.info? 3).map (·.size) = some 1 := by kernel_rfl

/-- the pieces of these lengths -/
def zs (z w : Nat) (k : Nat) : List (List Int) := (List.range k).map fun i => List.replicate (if i = w then z else 256) 0

theorem length_zs (z s k : Nat) : (zs z s k).length = k := by simp [zs]
theorem zs_succ (z s k : Nat) : zs z s (k + 1) = zs z s k ++ [List.replicate (if k = s then z else 256) 0] := by simp [zs, List.range_succ]
theorem zs_get {z s k i : Nat} (h : i < k) : (zs z s k)[i]?.getD [] = List.replicate (if i = s then z else 256) 0 := by simp [zs, h]
theorem okAt_zs {z s k i : Nat} (h : i < k) : okAt (zs z s k) i ↔ 1 ≤ (if i = s then z else 256) ∧ (if i = s then z else 256) ≤ 256 ∧ (i + 1 < k → 256 ≤ (if i = s then z else 256)) := by
  unfold okAt
  rw [zs_get h, List.length_replicate, length_zs]
theorem okAll_zs {z s k : Nat} (hs : s < k) : okAll (zs z s k) ↔ z = 256 ∨ (s + 1 = k ∧ 1 ≤ z ∧ z ≤ 256) := by
  constructor
  · intro h
    have h1 := (okAt_zs hs).1 (h s (by rw [length_zs]; exact hs))
    rw [if_pos rfl] at h1
    omega
  · intro h i hi
    rw [length_zs] at hi
    rw [okAt_zs hi]
    by_cases e : i = s
    · rw [if_pos e]; omega
    · rw [if_neg e]; omega
theorem flatten_zs (z s : Nat) : ∀ k, (zs z s k).flatten.length = if s < k then 256 * (k - 1) + z else 256 * k
  | 0 => by simp [zs]
  | k + 1 => by
    rw [zs_succ, List.flatten_append, List.length_append, flatten_zs z s k]
    simp only [List.flatten_cons, List.flatten_nil, List.append_nil, List.length_replicate]
    by_cases h1 : s < k
    · rw [if_pos h1, if_neg (by omega), if_pos (by omega)]; omega
    · by_cases h2 : k = s
      · rw [if_neg h1, if_pos h2, if_pos (by omega)]; omega
      · rw [if_neg h1, if_neg h2, if_neg (by omega)]; omega

/-- pieces that the law has made -/
def ZI (w : World) (z s i : Nat) (L : List Ent) (ls : List (Value × List Int)) : Prop :=
  ls.length = i ∧ ls.map (·.2) = zs z s i ∧ (∀ x ∈ ls, ∃ b m, x = (.slice (some ⟨b, 0, none⟩) m m, List.replicate m 0) ∧ (b, u8s (List.replicate m 0), 5) ∈ L) ∧ ∀ b ∈ L.map (·.1), w.heap.size ≤ b

theorem ZI.nil (w : World) (z s : Nat) : ZI w z s 0 [] [] := ⟨rfl, rfl, by simp, by simp⟩
theorem ZI.snoc {w : World} {z s i m b : Nat} {L : List Ent} {ls : List (Value × List Int)} (h : ZI w z s i L ls) (hb : w.heap.size ≤ b) (hm : m = if i = s then z else 256) :
    ZI w z s (i + 1) ((b, List.replicate m (.int .u8 0), 5) :: L) (ls ++ [(.slice (some ⟨b, 0, none⟩) m m, List.replicate m 0)]) := by
  obtain ⟨h1, h2, h3, h4⟩ := h
  have e : u8s (List.replicate m 0) = List.replicate m (.int .u8 0) := by simp [ints]
  refine ⟨by simp [h1], by rw [List.map_append, h2, zs_succ, hm]; rfl, fun x hx => ?_, fun k hk => ?_⟩
  · rcases List.mem_append.1 hx with hx | hx
    · obtain ⟨b', m', h5, h6⟩ := h3 x hx
      exact ⟨b', m', h5, .tail _ h6⟩
    · simp only [List.mem_singleton] at hx
      exact ⟨b, m, hx, by rw [e]; exact .head _⟩
  · simp only [List.map_cons, List.mem_cons] at hk
    rcases hk with rfl | hk
    · exact hb
    · exact h4 k hk
theorem ZI.oldL {w wr : World} {z s i : Nat} {L : List Ent} {ls : List (Value × List Int)} {v : Value} (h : ZI w z s i L ls) (B : BufV 25 1 w wr L v i (ls.map (·.1))) : OldL wr v ls := by
  obtain ⟨h1, h2, h3, h4⟩ := h
  refine ⟨by rw [h1]; exact B.slAt, B.lt, fun j x hx => ?_⟩
  obtain ⟨b, m, rfl, h6⟩ := h3 x (List.mem_of_getElem? hx)
  have hat := B.litAt (m := m) h6 (fun e => by rw [e]; rfl)
  obtain ⟨Lv, _, H, _⟩ := B
  refine ⟨⟨?_, fun k hk => ?_⟩, ⟨some ⟨b, 0, none⟩, m, by simp⟩, range_zeros m⟩
  · unfold BytesAt
    rw [List.length_replicate]
    exact hat
  · obtain rfl := (blk_some hk).1
    exact H.lt (List.mem_append_right _ h6)
theorem map_snoc (ls : List (Value × List Int)) (v : Value) (xs : List Int) : ls.map (·.1) ++ [v] = (ls ++ [(v, xs)]).map (·.1) := by simp

section
variable {P : Program} {ops : Array Oper} {rest : List Oper} {o : Oper} {a : Act} {w w0 : World} {Q : Exit → Act → World → Prop} {L L' : List Ent} {e : TypeId} {k : IntKind} {v xv : Value} {sz n : Nat} {cs : List Value}
/-- a make beside a slice of one's own -/
theorem st_makeV (hg : o.guard = none) (E : BufV e sz w0 w L v n cs) {t : TypeId} {x y : Operand} (ho : o.op = .makeSlice t x y) {e' : TypeId} {u : Value} {by_ : Nat} (ht : P.underlying t = some (.slice e'))
    (he : ((P.info? e').bind fun i => i.zero.map fun z => (i.size, i.bytes, z.cells.toList)) = some (1, by_, [u])) {k1 k2 : IntKind} {z1 z2 : Int} {m : Nat} (hx : a.eval x = .int k1 z1) (hy : a.eval y = .int k2 z2) (h1 : z1 = m) (h2 : z2 = m) (hb : by_ * m ≤ 281474976710656) (h63 : m ≤ 9223372036854775807)
    (h : ∀ b w', w0.heap.size ≤ b → BufV e sz w0 w' ((b, List.replicate m u, e') :: L) v n cs → wpList P ops Q rest (a.put o.dst (.slice (some ⟨b, 0, none⟩) m m)) w') : wpList P ops Q (o :: rest) a w := by
  obtain ⟨Lv, hsl, H, hd⟩ := E
  obtain ⟨b, w', hrun, hb', H'⟩ := rn_make H ho ht he hx hy h1 h2 hb h63
  have B : BufV e sz w0 w' ((b, List.replicate m u, e') :: L) v n cs := ⟨Lv, hsl, H'.perm List.perm_middle.symm, hd⟩
  exact wpList_plain hg fun K hK => by unfold Oper.wp; rw [hrun, Oper.upon_value]; exact hK _ _ (h b w' hb' B)
end

set_option maxRecDepth 100000 in
set_option maxHeartbeats 4000000 in
theorem chunkForms_row (w : World) (x : Int) (_ : IntKind.i64.min ≤ x) (_ : x ≤ IntKind.i64.max) (y : Int) (_ : IntKind.i64.min ≤ y) (_ : y ≤ IntKind.i64.max) (z0 : Int) (_ : IntKind.i64.min ≤ z0) (_ : z0 ≤ IntKind.i64.max) :
    Calls Try.prog 3 #[.int .i64 x, .int .i64 y, .int .i64 z0] w fun e w' => e = .returned (.bool true) ∧ Own w w' [] := by
  rename_i q1 q2 q3 q4 q5 q6
  clear q1 q2 q3 q4 q5 q6
  have H := Own.refl w
  obtain ⟨k0, hk0, hk1⟩ := rem_wrap x 5 (by omega) (by omega)
  obtain ⟨k, hk⟩ : ∃ k, k = 1 + k0 := ⟨_, rfl⟩
  have hk5 : 1 ≤ k ∧ k ≤ 5 := by omega
  obtain ⟨s, hs0, hs1⟩ := rem_wrap y (1 + (k0 : Int)) (by omega) (by omega)
  obtain ⟨t, ht0, ht1⟩ := rem_wrap z0 6 (by omega) (by omega)
  have ht6 : t < 6 := by omega
  obtain ⟨z, hz3, hz⟩ := six_at ht6
  have hz' := Lib.hid hz
  clear hz
  have tok1 : True := trivial
  go_enter Try.func3, Try.ntmps3
  go_wp2_with (first
    | (clear tok1; refine st_new rfl (rn_buildSlice (e := 3) (cs := [.int .i64 0, .int .i64 1, .int .i64 255, .int .i64 256, .int .i64 257, .int .i64 300]) H rfl (fun w' => by kernel_rfl)) ?_; clear H; intro b1 w1 hb1 H; have tok2 : True := trivial)
    | (clear tok2; refine st_val rfl (rn_load H rfl rfl (.head _) rfl rfl hz'.out) ?_))
  have hkk : (1 + (k0 : Int)) = (k : Int) := by omega
  rw [hkk]
  have H2 := H.end0 (by simpa using hb1)
  have hsk : s < k := by omega
  obtain ⟨hk1, hk2⟩ := hk5
  clear H hkk hk0 hs0 ht0 hs1 ht1 ht6 hz' hb1 hk hk1
  have B0 : BufV 25 1 w w1 [] (.slice none 0 0) 0 [] := BufV.nil H2
  clear H2
  go_loopw [10, 11, 12] (fun v10 v11 _ wr => ∃ i p c ls L, i ≤ k ∧ v11 = .int .i64 ((i : Nat) : Int) ∧ v10 = .slice p i c ∧ ZI w z s i L ls ∧ BufV 25 1 w wr L v10 i (ls.map (·.1))) (fun _ v11 _ _ => ((k : Int) - intOf v11).toNat)
  case atStart => exact ⟨0, none, 0, [], [], by omega, rfl, rfl, ZI.nil w z s, B0⟩
  case round =>
    clear B0
    obtain ⟨i, p, c, ls, L, hi, rfl, rfl, hZ, B⟩ := hrel
    have Z := Lib.hid hZ
    clear hZ
    by_cases hin : i < k
    · by_cases his : i = s
      · have hisI : (i : Int) = (s : Int) := by omega
        have hm : Hid (z = if i = s then z else 256) := by rw [if_pos his]; exact rfl
        clear his
        go_wp2_with (first
          | (refine st_makeV (m := z) rfl B rfl rfl make_u8 rfl rfl rfl rfl (by omega) (by omega) ?_; clear B; intro b2 w2 hb2 B; have Z2 := Lib.hid (Z.out.snoc hb2 hm.out))
          | (refine st_litV (el := 25) (ds := [.slice (some ⟨b2, 0, none⟩) z z]) rfl B rfl (fun w' => by kernel_rfl) ?_; clear B; intro b3 w3 hb3 B)
          | (refine st_appV rfl B elem_sl rfl rfl rfl rfl (m := 1) (B.litAt (.head _) (by omega)) rfl (by intro d hd; cases (List.mem_singleton.1 hd); rfl) (by omega) (by omega) ?_; clear B; intro p4 c4 w4 B; have B2 := B.pop hb3; clear B; have B := B2; clear B2; rw [map_snoc ls _ (List.replicate z 0)] at B))
        exact ⟨⟨i + 1, _, _, _, _, by omega, by go_num, rfl, Z2.out, B⟩, by simp [intOf]; omega⟩
      · have hisI : ¬ ((i : Int) = (s : Int)) := by omega
        have hm : Hid (256 = if i = s then z else 256) := by rw [if_neg his]; exact rfl
        clear his
        go_wp2_with (first
          | (refine st_makeV (m := 256) rfl B rfl rfl make_u8 rfl rfl rfl rfl (by omega) (by omega) ?_; clear B; intro b2 w2 hb2 B; have Z2 := Lib.hid (Z.out.snoc hb2 hm.out))
          | (refine st_litV (el := 25) (ds := [.slice (some ⟨b2, 0, none⟩) 256 256]) rfl B rfl (fun w' => by kernel_rfl) ?_; clear B; intro b3 w3 hb3 B)
          | (refine st_appV rfl B elem_sl rfl rfl rfl rfl (m := 1) (B.litAt (.head _) (by omega)) rfl (by intro d hd; cases (List.mem_singleton.1 hd); rfl) (by omega) (by omega) ?_; clear B; intro p4 c4 w4 B; have B2 := B.pop hb3; clear B; have B := B2; clear B2; rw [map_snoc ls _ (List.replicate 256 0)] at B))
        exact ⟨⟨i + 1, _, _, _, _, by omega, by go_num, rfl, Z2.out, B⟩, by simp [intOf]; omega⟩
    · obtain rfl : i = k := by omega
      obtain ⟨_, _, _, hnew⟩ := id Z.out
      have H4 := Lib.hid (B.own0.end0 hnew)
      have hLs := Lib.hid (Z.out.oldL B)
      have hl : Hid (ls.length = i) := Z.out.1
      have hm : Hid (ls.map (·.2) = zs z s i) := Z.out.2.1
      have hle : Hid (∀ (j : Nat) (x : Value × List Int), ls[j]? = some x → x.2.length ≤ 300) := fun j x hx => by
        obtain ⟨b, m, h1, _⟩ := Z.out.2.2.1 x (List.mem_of_getElem? hx)
        have h2 : (ls.map (·.2))[j]?.getD [] = x.2 := by simp [hx]
        have hj : j < i := by have := (List.getElem?_eq_some_iff.1 hx).1; have := hl.out; omega
        rw [hm.out, zs_get hj] at h2
        rw [← h2, List.length_replicate]
        split <;> omega
      clear hnew Z B
      have HH := Own.refl wr
      obtain ⟨ss, hss⟩ : ∃ ss, ss = sumsTo (ls.map (·.2)) ls.length := ⟨_, rfl⟩
      have hcs : Hid (Calls Try.prog 8 #[.slice p i c] wr fun e w'' => ∃ r, e = .returned r ∧ OldH w'' r ss ∧ Own wr w'' []) := by
        have := csums_any wr _ ls hLs.out (by have := hl.out; omega) (fun j x hx => by have := hle.out j x hx; omega)
        rw [← hss] at this
        exact this
      have hj : Hid (∀ w' u hs, Own wr w' [] → OldH w' u hs → Calls Try.prog 7 #[.slice p i c, u] w' fun e w'' => ∃ pp cp, e = .returned (.tuple #[.slice pp (jbytes (zs z s i) hs).length cp, .int .i64 (jcode (zs z s i) hs)]) ∧ Own w' w'' []) := fun w' u hs h hu => by
        refine (join_any w' _ u ls hs (hLs.out.mv h) hu (by have := hl.out; omega) (fun j x hx => by have := hle.out j x hx; omega)).mono ?_
        rintro e w3 ⟨r, rfl, hB, h3⟩
        obtain ⟨⟨pp, cp, rfl⟩, _⟩ := hB
        rw [hm.out]
        exact ⟨pp, cp, rfl, h3⟩
      have hss' : Hid (ss = sumsTo (zs z s i) (zs z s i).length) := by show _ = _; rw [hss, hm.out, length_zs, hl.out]
      have hok := Lib.hid (okAll_zs (z := z) hsk)
      have hne : Hid (sumsTo (zs z s i) (zs z s i).length ≠ []) := fun e => by
        have := congrArg List.length e
        rw [length_sumsTo, length_zs] at this
        simp at this
        omega
      clear hLs hl hm hle hss
      by_cases hmay : z = 256 ∨ (s + 1 = i ∧ 1 ≤ z ∧ z ≤ 256)
      · have e1 : Hid (jcode (zs z s i) ss = 0) := jcode_ok (hok.out.2 hmay) hss'.out.symm
        have e2 : Hid (jcode (zs z s i) [] = 8) := jcode_sum (hok.out.2 hmay) hne.out
        have e3 : Hid ((jbytes (zs z s i) ss).length = 256 * (i - 1) + z) := by show _ = _; rw [jbytes_ok e1.out, flatten_zs, if_pos hsk]
        have J1 : Hid (∀ w' u, Own wr w' [] → OldH w' u ss → Calls Try.prog 7 #[.slice p i c, u] w' fun e w'' => ∃ pp cp, e = .returned (.tuple #[.slice pp (256 * (i - 1) + z) cp, .int .i64 0]) ∧ Own w' w'' []) := fun w' u h hu => by
          have := hj.out w' u ss h hu
          rw [e1.out, e3.out] at this
          exact this
        have J2 : Hid (∀ w', Own wr w' [] → Calls Try.prog 7 #[.slice p i c, .slice none 0 0] w' fun e w'' => ∃ pp n cp, e = .returned (.tuple #[.slice pp n cp, .int .i64 8]) ∧ Own w' w'' []) := fun w' h => by
          have := hj.out w' _ [] h (OldH.nil _)
          rw [e2.out] at this
          refine this.mono ?_
          rintro e w3 ⟨pp, cp, rfl, h3⟩
          exact ⟨pp, _, cp, rfl, h3⟩
        obtain ⟨nb, hnb⟩ : ∃ nb, nb = 256 * (i - 1) + z := ⟨_, rfl⟩
        rw [← hnb] at J1
        have hnbI : (((i : Int) - 1) * 256 + (z : Int)) = (nb : Int) := by omega
        clear hj e1 e2 e3 hok hne hss' hnb
        have H := HH
        clear HH
        rcases Nat.lt_or_ge z 256 with hz | hz
        · have hz1 : (z : Int) ≤ 256 := by omega
          have hz0 : ¬ ((z : Int) = 256) := by omega
          have hs1 : (s : Int) = (i : Int) - 1 := by omega
          have hz2 : 1 ≤ (z : Int) := by omega
          clear hmay hz
          have tok1 : True := trivial
          go_wp2_with (first
            | (clear tok1; go_at_call 8; refine hcs.out.mono ?_; rintro e w3 ⟨r, rfl, hr, h3⟩; have H2 := H.trans h3; clear H h3 hcs; have H := H2; clear H2; have tok2 : True := trivial)
            | (clear tok2; go_at_call 7; refine (J1.out _ _ H hr).mono ?_; rintro e w4 ⟨pp, cp, rfl, h3⟩; have H2 := H.trans h3; clear H h3 hr J1; have H := H2; clear H2; have tok3 : True := trivial)
            | (clear tok3; go_at_call 7; refine (J2.out _ H).mono ?_; rintro e w5 ⟨pp2, n2, cp2, rfl, h3⟩; have H2 := H.trans h3; clear H h3 J2; have H := H2; clear H2; have tok4 : True := trivial)
            | (clear tok4; go_at_call 9; refine (told_any _).mono ?_; rintro e w6 ⟨rfl, h3⟩; have H2 := H.trans h3; clear H h3; have H := H2; clear H2))
          have H' := Lib.hid (H4.out.trans H)
          go_ret
          exact ⟨rfl, H'.out⟩
        · obtain rfl : z = 256 := by omega
          have hnbI2 : (((i : Int) - 1) * 256 + 256) = (nb : Int) := by omega
          clear hmay hz hnbI
          have tok1 : True := trivial
          go_wp2_with (first
            | (clear tok1; go_at_call 8; refine hcs.out.mono ?_; rintro e w3 ⟨r, rfl, hr, h3⟩; have H2 := H.trans h3; clear H h3 hcs; have H := H2; clear H2; have tok2 : True := trivial)
            | (clear tok2; go_at_call 7; refine (J1.out _ _ H hr).mono ?_; rintro e w4 ⟨pp, cp, rfl, h3⟩; have H2 := H.trans h3; clear H h3 hr J1; have H := H2; clear H2; have tok3 : True := trivial)
            | (clear tok3; go_at_call 7; refine (J2.out _ H).mono ?_; rintro e w5 ⟨pp2, n2, cp2, rfl, h3⟩; have H2 := H.trans h3; clear H h3 J2; have H := H2; clear H2; have tok4 : True := trivial)
            | (clear tok4; go_at_call 9; refine (told_any _).mono ?_; rintro e w6 ⟨rfl, h3⟩; have H2 := H.trans h3; clear H h3; have H := H2; clear H2))
          have H' := Lib.hid (H4.out.trans H)
          go_ret
          exact ⟨rfl, H'.out⟩
      · have hnok : Hid (¬ okAll (zs z s i)) := fun h => hmay (hok.out.1 h)
        have e0 : Hid (∀ hs, jcode (zs z s i) hs = 2) := fun hs => by unfold jcode; rw [if_neg hnok.out]
        have J1 : Hid (∀ w' u hs, Own wr w' [] → OldH w' u hs → Calls Try.prog 7 #[.slice p i c, u] w' fun e w'' => ∃ pp cp, e = .returned (.tuple #[.slice pp 0 cp, .int .i64 2]) ∧ Own w' w'' []) := fun w' u hs h hu => by
          have := hj.out w' u hs h hu
          rw [e0.out, jbytes_ne (e0.out hs) (by decide)] at this
          exact this
        clear hj e0 hok hne hss' hnok
        have hbadc : (z = 0 ∧ s + 1 = i) ∨ (256 < z ∧ s + 1 = i) ∨ (z ≠ 256 ∧ s + 1 ≠ i) := by omega
        have H := HH
        clear HH hmay
        rcases hbadc with ⟨rfl, h2⟩ | ⟨h1, h2⟩ | ⟨h1, h2⟩
        · have hs1 : (s : Int) = (i : Int) - 1 := by omega
          clear h2
          have tok1 : True := trivial
          go_wp2_with (first
            | (clear tok1; go_at_call 8; refine hcs.out.mono ?_; rintro e w3 ⟨r, rfl, hr, h3⟩; have H2 := H.trans h3; clear H h3 hcs; have H := H2; clear H2; have tok2 : True := trivial)
            | (clear tok2; go_at_call 7; refine (J1.out _ _ _ H hr).mono ?_; rintro e w4 ⟨pp, cp, rfl, h3⟩; have H2 := H.trans h3; clear H h3 hr; have H := H2; clear H2; have tok3 : True := trivial)
            | (clear tok3; go_at_call 7; refine (J1.out _ _ [] H (OldH.nil _)).mono ?_; rintro e w5 ⟨pp2, cp2, rfl, h3⟩; have H2 := H.trans h3; clear H h3 J1; have H := H2; clear H2; have tok4 : True := trivial)
            | (clear tok4; go_at_call 9; refine (told_any _).mono ?_; rintro e w6 ⟨rfl, h3⟩; have H2 := H.trans h3; clear H h3; have H := H2; clear H2))
          have H' := Lib.hid (H4.out.trans H)
          go_ret
          exact ⟨rfl, H'.out⟩
        · have hs1 : (s : Int) = (i : Int) - 1 := by omega
          have hz1 : ¬ ((z : Int) ≤ 256) := by omega
          have hz0 : ¬ ((z : Int) = 256) := by omega
          have hzb : ((z : Int) == 256) = false := by rw [beq_eq_false_iff_ne]; omega
          have hz2 : 1 ≤ (z : Int) := by omega
          clear h2 h1
          have tok1 : True := trivial
          go_wp2_with (first
            | (clear tok1; go_at_call 8; refine hcs.out.mono ?_; rintro e w3 ⟨r, rfl, hr, h3⟩; have H2 := H.trans h3; clear H h3 hcs; have H := H2; clear H2; have tok2 : True := trivial)
            | (clear tok2; go_at_call 7; refine (J1.out _ _ _ H hr).mono ?_; rintro e w4 ⟨pp, cp, rfl, h3⟩; have H2 := H.trans h3; clear H h3 hr; have H := H2; clear H2; have tok3 : True := trivial)
            | (clear tok3; go_at_call 7; refine (J1.out _ _ [] H (OldH.nil _)).mono ?_; rintro e w5 ⟨pp2, cp2, rfl, h3⟩; have H2 := H.trans h3; clear H h3 J1; have H := H2; clear H2; have tok4 : True := trivial)
            | (clear tok4; go_at_call 9; refine (told_any _).mono ?_; rintro e w6 ⟨rfl, h3⟩; have H2 := H.trans h3; clear H h3; have H := H2; clear H2))
          have H' := Lib.hid (H4.out.trans H)
          go_ret
          exact ⟨rfl, H'.out⟩
        · have hs1 : ¬ ((s : Int) = (i : Int) - 1) := by omega
          have hz1 : ¬ ((z : Int) = 256) := by omega
          have hzb : ((z : Int) == 256) = false := by rw [beq_eq_false_iff_ne]; omega
          clear h2 h1
          have tok1 : True := trivial
          go_wp2_with (first
            | (clear tok1; go_at_call 8; refine hcs.out.mono ?_; rintro e w3 ⟨r, rfl, hr, h3⟩; have H2 := H.trans h3; clear H h3 hcs; have H := H2; clear H2; have tok2 : True := trivial)
            | (clear tok2; go_at_call 7; refine (J1.out _ _ _ H hr).mono ?_; rintro e w4 ⟨pp, cp, rfl, h3⟩; have H2 := H.trans h3; clear H h3 hr; have H := H2; clear H2; have tok3 : True := trivial)
            | (clear tok3; go_at_call 7; refine (J1.out _ _ [] H (OldH.nil _)).mono ?_; rintro e w5 ⟨pp2, cp2, rfl, h3⟩; have H2 := H.trans h3; clear H h3 J1; have H := H2; clear H2; have tok4 : True := trivial)
            | (clear tok4; go_at_call 9; refine (told_any _).mono ?_; rintro e w6 ⟨rfl, h3⟩; have H2 := H.trans h3; clear H h3; have H := H2; clear H2))
          have H' := Lib.hid (H4.out.trans H)
          go_ret
          exact ⟨rfl, H'.out⟩

end Go.Proofs.Ytjcnhpnadfhjaaa
