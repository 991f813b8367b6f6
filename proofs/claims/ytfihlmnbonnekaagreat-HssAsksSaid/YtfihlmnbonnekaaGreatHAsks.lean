/- chirographlaw5.HssAsks. -/
import Derived.Test.YtfihlmnbonnekaaGreatRKey
import Derived.Test.YtfihlmnbonnekaaGreatRHvB
import Derived.Test.YtfihlmnbonnekaaGreatHLong
namespace Go.Proofs.YtfihlmnbonnekaaGreat
open Go.RowKit
set_option maxHeartbeats 32000000
set_option linter.unusedVariables false
section
variable {P : Program} {ops : Array Oper} {rest : List Oper} {o : Oper} {a : Act} {w w1 : World} {Q : Exit → Act → World → Prop} {e : TypeId} {k : IntKind}
theorem st_appW (hw : Region.wanted o (yielded ops a.tmps) = true) {v xv : Value} {xs ys : List Int} (E : Buf e k w w1 [] v xs) {by_ : Nat} (he : Elem P e 1 by_) {s x : Operand} {t : TypeId} (ho : o.op = .call { callee := .builtin .append, args := #[s, x], argTypes := #[t, t] })
 (ht : P.underlying t = some (.slice e)) (hs : a.eval s = v) (hx : a.eval x = xv) (hsrc : SlAt w1 xv ys.length (ints k ys)) (hbytes : (xs.length + ys.length) * by_ ≤ 140737488355328) (h63 : xs.length + ys.length ≤ 140737488355328) {m : Nat} (hm : xs.length + ys.length = m)
 (h : ∀ p c w2, Buf e k w w2 [] (.slice p m c) (xs ++ ys) → wpList P ops Q rest (a.put o.dst (.slice p m c)) w2) : wpList P ops Q (o :: rest) a w1 :=
 BigFrame.wpList_want hw fun K hK => (append_both E he ho ht hs hx hsrc hbytes h63).wp fun v' w' ⟨h1, h2⟩ => by
  obtain ⟨p, c, rfl⟩ := h2.slice
  rw [List.length_append, hm] at h2 ⊢
  exact hK _ _ (h p c w' h2)
end
theorem bytes_cell0 {w : World} {g n c : Nat} {bs : List Int} (h : BytesAt w (.slice (some ⟨g, 0, none⟩) n c) bs) {j : Nat} {v : Value} (hj : (u8s bs)[j]? = some v) : w.cell? ⟨g, j, none⟩ = some v := by
 have := bytes_cellV h j v hj
 rwa [Nat.zero_add] at this
theorem Buf.addr0 {w w1 : World} {p : Option Addr} {n c : Nat} {xs : List Int} (h : Buf 5 .u8 w w1 [] (.slice p n c) xs) (h0 : 0 < xs.length) : ∃ g, p = some ⟨g, 0, none⟩ ∧ xs.length ≤ c ∧ w.heap.size ≤ g ∧ g < w1.heap.size := BufR.addr ⟨w, Nat.le_refl _, h⟩ h0
theorem Buf.old0 {w w1 : World} {v : Value} {xs : List Int} (h : Buf 5 .u8 w w1 [] v xs) : Old w1 v xs := ⟨h.bytesAt, h.lt⟩
theorem xor_facts5 {z x : Int} (hz : 0 ≤ z ∧ z < 256) (hx : 0 ≤ x ∧ x < 256) : 0 ≤ bits .xor .u8 z x ∧ bits .xor .u8 z x < 256 := by
 rw [u8_xor z x hz.1 hz.2 hx.1 hx.2]
 have h := Nat.xor_lt_two_pow (x := z.toNat) (y := x.toNat) (n := 8) (by omega) (by omega)
 omega
theorem isBytes_set5 {bs : List Int} {k : Nat} {z : Int} (h : IsBytes bs) (hz : 0 ≤ z ∧ z < 256) : IsBytes (bs.set k z) := by
 rw [isBytes_mem] at h ⊢
 intro x hx
 rcases List.mem_or_eq_of_mem_set hx with h1 | rfl
 · exact h x h1
 · exact hz
theorem RKeyAt.mvN {w w' : World} {kb tb : Nat} {id sd : List Int} {k : Nat} {l : Int} {L : List Ent} (h : RKeyAt w kb tb id sd k l) (ho : Own w w' L) (h1 : kb ∉ L.map (·.1)) (h2 : tb ∉ L.map (·.1)) : RKeyAt w' kb tb id sd k l := by
 have hg : kb < w.heap.size := (Array.getElem?_eq_some_iff.1 h.2).1
 have ht : tb < w.heap.size := (Array.getElem?_eq_some_iff.1 h.1).1
 exact ⟨(ho.keep tb ht h2).trans h.1, (ho.keep kb hg h1).trans h.2⟩
theorem RKeyAt.lt {w : World} {kb tb : Nat} {id sd : List Int} {k : Nat} {l : Int} (h : RKeyAt w kb tb id sd k l) : kb < w.heap.size ∧ tb < w.heap.size := ⟨(Array.getElem?_eq_some_iff.1 h.2).1, (Array.getElem?_eq_some_iff.1 h.1).1⟩
theorem len_sgnL (id sd : List Int) (l : Int) (hl : l = 1 ∨ l = 2) (N : Nat) (msg : List Int) : 60 ≤ (sgnL id sd 2 l N msg).length ∧ (sgnL id sd 2 l N msg).length ≤ 19000 := by
 have hz : sizeOfL 2 = 4460 := by kernel_rfl
 rcases hl with rfl | rfl
 · have hL : (sgnL id sd 2 1 N msg).length = 4 + sizeOfL 2 := by show (numB 0 4 ++ lsigOf id sd 2 N msg).length = _; rw [List.length_append, length_numB, length_lsigOf]
   omega
 · have hL : (sgnL id sd 2 2 N msg).length = 4 + sizeOfL 2 + 56 + sizeOfL 2 := length_sgL2 id sd 2 (N / 32) (N % 32) msg
   omega
theorem rkey_sign (w : World) (kb tb : Nat) (id sd : List Int) (h16 : id.length = 16) (h32 : sd.length = 32) (hid : IsBytes id) (hsd : IsBytes sd) (l : Int) (N : Nat) (hl : l = 1 ∧ N < 32 ∨ l = 2 ∧ N < 1024) (hK : RKeyAt w kb tb id sd 2 l) (pm : Option Addr) (n cm : Nat) (msg : List Int) (hO : Old w (.slice pm n cm) msg) (hmb : IsBytes msg) (hml : msg.length ≤ 90000) {m : Nat} (hm : (sgnL id sd 2 l N msg).length = m) :
 Calls Tryz.prog 29 #[.pointer (some ⟨kb, 0, none⟩), .int .i64 N, .slice pm n cm] w fun e w' => ∃ p c, e = .returned (.slice p m c) ∧ Old w' (.slice p m c) (sgnL id sd 2 l N msg) ∧ Own w w' [] := by
 rcases hl with ⟨rfl, hN⟩ | ⟨rfl, hN⟩
 · have hL : (sgnL id sd 2 1 N msg).length = 4 + sizeOfL 2 := by show (numB 0 4 ++ lsigOf id sd 2 N msg).length = _; rw [List.length_append, length_numB, length_lsigOf]
   exact rkey_sign1 w kb tb id sd h16 h32 hid hsd 2 (Or.inr (Or.inl rfl)) hK N hN pm n cm msg hO hmb hml (hm.symm.trans hL)
 · exact rkey_sign2 w kb tb id sd h16 h32 hid hsd 2 (Or.inr (Or.inl rfl)) hK N (N / 32) (N % 32) (by omega) (by omega) (by omega) pm n cm msg hO hmb hml (hm.symm.trans (length_sgL2 id sd 2 (N / 32) (N % 32) msg))
theorem numB_1 (X : List Int) : numB 1 4 ++ X = 0 :: 0 :: 0 :: 1 :: X := rfl
theorem numB_2 (X : List Int) : numB 2 4 ++ X = 0 :: 0 :: 0 :: 2 :: X := rfl
theorem hver_key (w : World) (pv mv sv : Value) (l : Int) (hl12 : l = 1 ∨ l = 2) (X msg sig : List Int) (hX : X.length = 56) (hw : widthL X ≠ 0) (hp : Old w pv (numB l 4 ++ X)) (hpb : IsBytes (numB l 4 ++ X)) (hm : Old w mv msg) (hmb : IsBytes msg) (hml : msg.length ≤ 90000) (hs : Old w sv sig) (hsb : IsBytes sig) (hsl : sig.length ≤ 1000000) :
 Calls Tryz.prog 30 #[pv, mv, sv] w fun e w' => e = .returned (.int .i64 (hverL (numB l 4 ++ X) msg sig)) ∧ Own w w' [] := by
 have h60 : (numB l 4 ++ X).length = 60 := by rw [List.length_append, length_numB, hX]
 have hpl : (numB l 4 ++ X).length ≤ 1000000 := by omega
 have hd : (numB l 4 ++ X).drop 4 = X := List.drop_left' (length_numB _ _)
 obtain ⟨pub, hpub⟩ : ∃ p, p = numB l 4 ++ X := ⟨_, rfl⟩
 have hl0 : num4V (numB l 4 ++ X) false = l := by rcases hl12 with rfl | rfl; exact num4_small (q := 1) (by decide) _; exact num4_small (q := 2) (by decide) _
 rw [← hpub] at hp hpb hd h60 hpl hl0 ⊢
 rw [← hd] at hw
 unfold hverL
 rw [if_pos ⟨h60, by rw [hl0]; exact hl12, hw⟩]
 rcases hl12 with rfl | rfl
 · have hl := hl0
   rw [hl]
   by_cases hs4 : 4 ≤ sig.length
   · by_cases hS : num4V sig false = 0
     · rw [if_pos ⟨hs4, by rw [hS]; rfl⟩, if_pos rfl]
       exact hver_1 w pv mv sv pub msg sig hp hpb hm hmb hml hs hsb hsl hpl h60 hl hw hS hs4
     · rw [if_neg (fun h => hS (h.2.trans rfl))]
       exact hver_sig1 w pv mv sv pub msg sig hp hpb hm hmb hml hs hsb hsl hpl h60 hl hw hS
   · rw [if_neg (fun h => hs4 h.1)]
     exact hver_s4 w pv mv sv pub msg sig hp hpb hm hmb hml hs hsb hsl hpl h60 hl hw (by omega)
 · have hl := hl0
   rw [hl]
   by_cases hS : num4V sig false = 1
   · have hs4 : 4 ≤ sig.length := by
      rcases Nat.lt_or_ge sig.length 4 with h | h
      · unfold num4V at hS
        rw [if_pos (Or.inr h)] at hS
        cases hS
      · exact h
     rw [if_pos ⟨hs4, by rw [hS]; rfl⟩, if_neg (by decide)]
     by_cases hc : sizeOfL (widthL (pub.drop 4)) + 56 ≤ (sig.drop 4).length
     · by_cases hfm : widthL (((sig.drop 4).drop (sizeOfL (widthL (pub.drop 4)))).take 56) = 0
       · rw [if_neg (fun h => h.2.1 hfm)]
         exact hver_2c w pv mv sv pub msg sig hp hpb hm hmb hml hs hsb hsl hpl h60 hl hw hS hs4 hc hfm
       · rcases verL_01 (msg := ((sig.drop 4).drop (sizeOfL (widthL (pub.drop 4)))).take 56) (sig := (sig.drop 4).take (sizeOfL (widthL (pub.drop 4)))) hw with hvv | hvv
         · rw [if_pos ⟨hc, hfm, hvv⟩]
           exact hver_2e w pv mv sv pub msg sig hp hpb hm hmb hml hs hsb hsl hpl h60 hl hw hS hs4 hc hfm hvv
         · rw [if_neg (fun h => by rw [hvv] at h; exact absurd h.2.2 (by decide))]
           exact hver_2d w pv mv sv pub msg sig hp hpb hm hmb hml hs hsb hsl hpl h60 hl hw hS hs4 hc hfm hvv
     · rw [if_neg (fun h => hc h.1)]
       by_cases hd : (sig.drop 4).length < sizeOfL (widthL (pub.drop 4))
       · exact hver_2a w pv mv sv pub msg sig hp hpb hm hmb hml hs hsb hsl hpl h60 hl hw hS hs4 hd
       · exact hver_2b w pv mv sv pub msg sig hp hpb hm hmb hml hs hsb hsl hpl h60 hl hw hS hs4 (by omega) (by omega)
   · rw [if_neg (fun h => hS (h.2.trans rfl))]
     exact hver_sig2 w pv mv sv pub msg sig hp hpb hm hmb hml hs hsb hsl hpl h60 hl hw hS
theorem rhver_key (w : World) (pv mv sv : Value) (l : Int) (hl12 : l = 1 ∨ l = 2) (X msg sig : List Int) (hX : X.length = 56) (hw : widthL X ≠ 0) (hp : Old w pv (numB l 4 ++ X)) (hpb : IsBytes (numB l 4 ++ X)) (hm : Old w mv msg) (hmb : IsBytes msg) (hml : msg.length ≤ 90000) (hs : Old w sv sig) (hsb : IsBytes sig) (hs4 : 4 ≤ sig.length) (hs2 : l = 2 → 4 + sizeOfL (widthL X) + 56 ≤ sig.length) :
 Calls Tryz.prog 31 #[pv, mv, sv] w fun e w' => e = .returned (.int .i64 (hverL (numB l 4 ++ X) msg sig)) ∧ Own w w' [] := by
 have h60 : (numB l 4 ++ X).length = 60 := by rw [List.length_append, length_numB, hX]
 have hd : (numB l 4 ++ X).drop 4 = X := List.drop_left' (length_numB _ _)
 have hl0 : num4V (numB l 4 ++ X) false = l := by rcases hl12 with rfl | rfl; exact num4_small (q := 1) (by decide) _; exact num4_small (q := 2) (by decide) _
 have hv4 : num4V sig false = beN sig 4 := by unfold num4V; rw [if_neg (by simp; omega)]
 obtain ⟨pub, hpu⟩ : ∃ p, p = numB l 4 ++ X := ⟨_, rfl⟩
 rw [← hpu] at hp hpb hd h60 hl0 ⊢
 rw [← hd] at hw hs2
 unfold hverL
 rw [if_pos ⟨h60, by rw [hl0]; exact hl12, hw⟩]
 rcases hl12 with rfl | rfl
 · rw [hl0]
   have hpub : pub = 0 :: 0 :: 0 :: 1 :: X := hpu.trans (numB_1 X)
   have hiff := beN_iff (c := 0) hsb hs4 (by omega)
   by_cases hS : sig.take 4 = numB (0 : Int) 4
   · rw [if_pos ⟨hs4, by rw [hv4]; exact hiff.2 hS⟩, if_pos rfl]
     exact rhver_1 w pv mv sv pub msg sig hp hpb hm hmb hml hs hsb h60 X hpub hw hs4 hS
   · rw [if_neg (fun h => hS (hiff.1 (by rw [← hv4]; exact h.2)))]
     exact rhver_sig1 w pv mv sv pub msg sig hp hpb hm hmb hml hs hsb h60 X hpub hw hs4 hS
 · rw [hl0]
   have hpub : pub = 0 :: 0 :: 0 :: 2 :: X := hpu.trans (numB_2 X)
   have hiff := beN_iff (c := 1) hsb hs4 (by omega)
   have hs3 := hs2 rfl
   by_cases hS : sig.take 4 = numB (1 : Int) 4
   · rw [if_pos ⟨hs4, by rw [hv4]; exact hiff.2 hS⟩, if_neg (by decide)]
     have hdl : (sig.drop 4).length = sig.length - 4 := List.length_drop
     have hc : sizeOfL (widthL (pub.drop 4)) + 56 ≤ (sig.drop 4).length := by omega
     by_cases hfm : widthL (((sig.drop 4).drop (sizeOfL (widthL (pub.drop 4)))).take 56) = 0
     · rw [if_neg (fun h => h.2.1 hfm)]
       exact rhver_2c w pv mv sv pub msg sig hp hpb hm hmb hml hs hsb h60 X hpub hw hs4 hS (by omega) hfm
     · rcases verL_01 (msg := ((sig.drop 4).drop (sizeOfL (widthL (pub.drop 4)))).take 56) (sig := (sig.drop 4).take (sizeOfL (widthL (pub.drop 4)))) hw with hvv | hvv
       · rw [if_pos ⟨hc, hfm, hvv⟩]
         exact rhver_2e w pv mv sv pub msg sig hp hpb hm hmb hml hs hsb h60 X hpub hw hs4 hS (by omega) hfm hvv
       · rw [if_neg (fun h => by rw [hvv] at h; exact absurd h.2.2 (by decide))]
         exact rhver_2d w pv mv sv pub msg sig hp hpb hm hmb hml hs hsb h60 X hpub hw hs4 hS (by omega) hfm hvv
   · rw [if_neg (fun h => hS (hiff.1 (by rw [← hv4]; exact h.2)))]
     exact rhver_sig2 w pv mv sv pub msg sig hp hpb hm hmb hml hs hsb h60 X hpub hw hs4 hS
set_option maxRecDepth 100000 in
theorem hssAsks_m (w : World) (id sd : List Int) (h16 : id.length = 16) (h32 : sd.length = 32) (hidb : IsBytes id) (hsdb : IsBytes sd) (lv n0 at0 x1 : Int) (hx1 : 0 ≤ x1 ∧ x1 < 256) (l0 l : Int) (lim lim1 m0 N : Nat) (hl : l = 1 ∧ lim = 32 ∨ l = 2 ∧ lim = 1024) (hl0 : l0 = 0 ∨ l0 = 1) (hls : 1 + l0 = l) (hlv : wrap64 ((IntKind.u64.wrap lv).tmod 2) = l0) (hor : bits .or .i64 (lim : Int) 1 = (lim1 : Int)) (hl1 : lim1 = lim + 1)
 (hm0 : wrap64 ((IntKind.u64.wrap n0).tmod (lim1 : Int)) = (m0 : Int)) (hN : m0 < lim ∧ N = m0 ∨ m0 = lim ∧ N = 0) (pm : Option Addr) (n cm : Nat) (msg : List Int) (hO : Old w (.slice pm n cm) msg) (hmb : IsBytes msg) (hn : n = msg.length) (hn60 : n ≤ 60) :
 Calls Tryz.prog 6 #[.agg (u8s (id ++ sd)).toArray, .int .i64 lv, .int .i64 n0, (.slice pm n cm), .int .i64 at0, .int .u8 x1] w fun e w' => e = .returned (.bool true) ∧ Own w w' [] := by
 have H := Own.refl w
 have _ := hx1
 have h48 : (id ++ sd).length = 48 := by rw [List.length_append, h16, h32]
 have hto := Hh htold_any
 have hl12 : l = 1 ∨ l = 2 := hl.elim (fun h => Or.inl h.1) (fun h => Or.inr h.1)
 have hlN : l = 1 ∧ N < 32 ∨ l = 2 ∧ N < 1024 := by omega
 have hlZ : l = 1 ∧ (lim : Int) = 32 ∨ l = 2 ∧ (lim : Int) = 1024 := by omega
 obtain ⟨m, hm⟩ : ∃ m, (sgnL id sd 2 l N msg).length = m := ⟨_, rfl⟩
 obtain ⟨hm60, hm19⟩ := len_sgnL id sd l hl12 N msg
 rw [hm] at hm60 hm19
 have hnw := Hh (fun w' => hnew_any w' (id ++ sd) h48 2 (Or.inr (Or.inl rfl)) l hl12)
 have hry := Hh (fun w' => rkey_new w' id sd h16 h32 hidb hsdb 2 (Or.inr (Or.inl rfl)) l)
 have hmn : Hid (∀ w', Calls Tryz.prog 25 #[.int .i64 l] w' fun e w'' => e = .returned (.int .i64 lim) ∧ Own w' w'' []) := fun w' => by
  rcases hl with ⟨rfl, rfl⟩ | ⟨rfl, rfl⟩
  · exact many_1 w'
  · exact many_2 w'
 have hs1 := Hh (fun kb tb w' H0 hO' hne => km_sign kb tb N m l hlN id sd h16 h32 2 (Or.inr (Or.inl rfl)) w' H0 pm n cm msg hO' hmb (by omega) hne hm)
 have hpb := Hh (fun kb tb w' L0 hL H0 => km_public kb tb l hl12 id sd h16 h32 2 (Or.inr (Or.inl rfl)) w' L0 hL H0)
 have hrp := Hh (fun w' yk yt hK => rkey_pub w' yk yt id sd h16 h32 hidb hsdb 2 (Or.inr (Or.inl rfl)) l hl12 hK)
 have hrs := Hh (fun w' yk yt hK hO' => rkey_sign w' yk yt id sd h16 h32 hidb hsdb l N hlN hK pm n cm msg hO' hmb (by omega) hm)
 have hfl := Hh (fun kb tb w' L0 hL H0 => km_full kb tb l lim hlZ id sd 2 w' L0 hL H0 pm n cm)
 have hng := Hh (fun w' kb => hsign_neg w' kb pm n cm)
 have hsb := isBytes_sgnL id sd 2 l N msg
 have hpbb : IsBytes (numB l 4 ++ pubL id sd 2) := isBytes_app (isBytes_numB _ _) (isBytes_pubL hidb _ _)
 have hppl : Hid ((numB l 4 ++ pubL id sd 2).length = 60) := by show _ = _; rw [List.length_append, length_numB, length_pubL h16]
 obtain ⟨ho1, ho2, -⟩ := hver_own l N hlN h16 sd (k := 2) (Or.inr (Or.inl rfl)) msg
 have ho3 := hver_long l N hlN h16 sd (k := 2) (Or.inr (Or.inl rfl)) msg
 rw [hm] at ho2 ho3
 have hX56 : (pubL id sd 2).length = 56 := length_pubL h16 sd 2
 have hXw2 : widthL (pubL id sd 2) = 2 := width_pubL h16 sd (Or.inr (Or.inl rfl))
 have hXw : widthL (pubL id sd 2) ≠ 0 := by rw [hXw2]; decide
 have hm2 : l = 2 → 4 + sizeOfL 2 + 56 ≤ m := fun h => by subst h; have := length_sgL2 id sd 2 (N / 32) (N % 32) msg; have h2 : (sgnL id sd 2 2 N msg).length = 4 + sizeOfL 2 + 56 + sizeOfL 2 := this; omega
 have hvr : Hid (∀ w' v1 v2 S, Old w' v1 (numB l 4 ++ pubL id sd 2) → Old w' (.slice pm n cm) msg → Old w' v2 S → IsBytes S → S.length ≤ 1000000 → Calls Tryz.prog 30 #[v1, (.slice pm n cm), v2] w' fun e w'' => e = .returned (.int .i64 (hverL (numB l 4 ++ pubL id sd 2) msg S)) ∧ Own w' w'' []) := fun w' v1 v2 S g1 g2 g3 g4 g5 => hver_key w' v1 (.slice pm n cm) v2 l hl12 _ _ _ hX56 hXw g1 hpbb g2 hmb (by omega) g3 g4 g5
 have hrr : Hid (∀ w' v1 v2 S, Old w' v1 (numB l 4 ++ pubL id sd 2) → Old w' (.slice pm n cm) msg → Old w' v2 S → IsBytes S → S.length = m → Calls Tryz.prog 31 #[v1, (.slice pm n cm), v2] w' fun e w'' => e = .returned (.int .i64 (hverL (numB l 4 ++ pubL id sd 2) msg S)) ∧ Own w' w'' []) := fun w' v1 v2 S g1 g2 g3 g4 g5 => rhver_key w' v1 (.slice pm n cm) v2 l hl12 _ _ _ hX56 hXw g1 hpbb g2 hmb (by omega) g3 g4 (by omega) (fun h => by rw [hXw2]; have := hm2 h; omega)
 have hsl : Hid ((sgnL id sd 2 l N msg).length = m) := hm
 have hv59 : Hid (∀ w' v1 v2 S, Old w' v1 ((numB l 4 ++ pubL id sd 2).take 59) → Old w' (.slice pm n cm) msg → Old w' v2 S → IsBytes S → S.length ≤ 1000000 → Calls Tryz.prog 30 #[v1, (.slice pm n cm), v2] w' fun e w'' => e = .returned (.int .i64 2) ∧ Own w' w'' []) := fun w' v1 v2 S g1 g2 g3 g4 g5 => by
  have h59 : ((numB l 4 ++ pubL id sd 2).take 59).length = 59 := by rw [List.length_take, hppl.out]; rfl
  exact hver_len w' v1 (.slice pm n cm) v2 _ msg S g1 (isBytes_take hpbb _) (by rw [h59]; omega) (by rw [h59]; omega)
 obtain ⟨SG, hSG⟩ : ∃ x, x = sgnL id sd 2 l N msg := ⟨_, rfl⟩
 obtain ⟨PU, hPU⟩ : ∃ x, x = numB l 4 ++ pubL id sd 2 := ⟨_, rfl⟩
 simp only [← hSG] at hs1 hrs hsb ho1 ho2 hsl
 simp only [← hPU] at hpb hrp hppl hpbb ho1 ho2 ho3 hvr hrr hv59
 have hsm1 : Hid (∀ w' v1 v2, Old w' v1 PU → Old w' v2 PU → Calls Tryz.prog 11 #[v1, v2] w' fun e w'' => e = .returned (.bool true) ∧ Own w' w'' []) := fun w' v1 v2 g1 g2 => (same_any w' v1 v2 _ _ g1.1 g2.1 hpbb hpbb).mono fun e w'' h => by rw [decide_eq_true rfl] at h; exact h
 have hsm2 : Hid (∀ w' v1 v2, Old w' v1 SG → Old w' v2 SG → Calls Tryz.prog 11 #[v1, v2] w' fun e w'' => e = .returned (.bool true) ∧ Own w' w'' []) := fun w' v1 v2 g1 g2 => (same_any w' v1 v2 _ _ g1.1 g2.1 hsb hsb).mono fun e w'' h => by rw [decide_eq_true rfl] at h; exact h
 have hv0 : Hid (∀ w' v1 v2, Old w' v1 PU → Old w' (.slice pm n cm) msg → Old w' v2 SG → Calls Tryz.prog 30 #[v1, (.slice pm n cm), v2] w' fun e w'' => e = .returned (.int .i64 0) ∧ Own w' w'' []) := fun w' v1 v2 g1 g2 g3 => by
  have h := hvr.out w' v1 v2 SG g1 g2 g3 hsb (by rw [hsl.out]; omega)
  rwa [ho1] at h
 have hv59' : Hid (∀ w' v1 v2, Old w' v1 (PU.take 59) → Old w' (.slice pm n cm) msg → Old w' v2 SG → Calls Tryz.prog 30 #[v1, (.slice pm n cm), v2] w' fun e w'' => e = .returned (.int .i64 2) ∧ Own w' w'' []) := fun w' v1 v2 g1 g2 g3 => hv59.out w' v1 v2 SG g1 g2 g3 hsb (by rw [hsl.out]; omega)
 obtain ⟨n1, hn1, hn1l⟩ := rem_wrap at0 m (by omega) (by omega)
 have hn1l' : n1 < m := by omega
 obtain ⟨z, hz⟩ : ∃ z, SG[n1]?.getD 0 = z := ⟨_, rfl⟩
 have hz0 : Hid (0 ≤ z ∧ z < 256) := by have := hsb n1 (by rw [hsl.out]; exact hn1l'); rw [hz] at this; exact this
 have hzg : Hid ((u8s SG)[n1]? = some (.int .u8 z)) := by show _ = _; rw [← hz]; exact ints_get (by rw [hsl.out]; exact hn1l')
 obtain ⟨ys, hys⟩ : ∃ ys, SG.set n1 (bits .xor .u8 z x1) = ys := ⟨_, rfl⟩
 have hys' := Hh hys
 have hyl : Hid (ys.length = m) := by show _ = _; rw [← hys, List.length_set, hsl.out]
 have hyb : IsBytes ys := by rw [← hys]; exact isBytes_set5 hsb (xor_facts5 hz0.out hx1)
 have hi1 : Hid (n1 < SG.length) := by show _ < _; rw [hsl.out]; exact hn1l'
 obtain ⟨V, hV⟩ : ∃ V, V = hverL PU msg ys := ⟨_, rfl⟩
 have hv1 : Hid (∀ w' v1 v2, Old w' v1 PU → Old w' (.slice pm n cm) msg → Old w' v2 ys → Calls Tryz.prog 30 #[v1, (.slice pm n cm), v2] w' fun e w'' => e = .returned (.int .i64 V) ∧ Own w' w'' []) := fun w' v1 v2 g1 g2 g3 => by
  rw [hV]; exact hvr.out w' v1 v2 ys g1 g2 g3 hyb (by rw [hyl.out]; omega)
 have hr1 : Hid (∀ w' v1 v2, Old w' v1 PU → Old w' (.slice pm n cm) msg → Old w' v2 ys → Calls Tryz.prog 31 #[v1, (.slice pm n cm), v2] w' fun e w'' => e = .returned (.int .i64 V) ∧ Own w' w'' []) := fun w' v1 v2 g1 g2 g3 => by
  rw [hV]; exact hrr.out w' v1 v2 ys g1 g2 g3 hyb hyl.out
 have hvc : Hid (∀ w' v1 v2, Old w' v1 PU → Old w' (.slice pm n cm) msg → Old w' v2 (SG.take n1) → Calls Tryz.prog 30 #[v1, (.slice pm n cm), v2] w' fun e w'' => e = .returned (.int .i64 3) ∧ Own w' w'' []) := fun w' v1 v2 g1 g2 g3 => by
  have h := hvr.out w' v1 v2 _ g1 g2 g3 (isBytes_take hsb _) (by rw [List.length_take, hsl.out]; omega)
  rwa [ho2 n1 hn1l'] at h
 have hvl : Hid (∀ w' v1 v2, Old w' v1 PU → Old w' (.slice pm n cm) msg → Old w' v2 (ys ++ [0]) → Calls Tryz.prog 30 #[v1, (.slice pm n cm), v2] w' fun e w'' => e = .returned (.int .i64 3) ∧ Own w' w'' []) := fun w' v1 v2 g1 g2 g3 => by
  have h := hvr.out w' v1 v2 _ g1 g2 g3 (isBytes_app hyb (isBytes_cons (by omega) (by omega) isBytes_nil)) (by rw [List.length_append, hyl.out, List.length_singleton]; omega)
  rwa [ho3 _ (by rw [List.length_append, hyl.out, List.length_singleton])] at h
 have hcto : Hid (∀ w' g c, m ≤ c → Old w' (.slice (some ⟨g, 0, none⟩) m c) SG → Old w' (.slice (some ⟨g, 0, none⟩) n1 c) (SG.take n1)) := fun w' g c h1 h2 => h2.to6 hsl.out.symm (by omega) h1 (by omega)
 have hpto : Hid (∀ w' g c, 60 ≤ c → Old w' (.slice (some ⟨g, 0, none⟩) 60 c) PU → Old w' (.slice (some ⟨g, 0, none⟩) 59 c) (PU.take 59)) := fun w' g c h1 h2 => h2.to6 hppl.out.symm (by omega) h1 (by omega)
 have hsz48 : Hid ((Tryz.prog.info? 26).map (·.size) = some (u8s (id ++ sd)).length) := by show _ = _; rw [length_ints, h48]; exact size_secret
 have hm02 : IntKind.i64.wrap ((IntKind.u64.wrap n0).tmod (lim1 : Int)) = (m0 : Int) := (IntWalk.i64_left _).trans hm0
 have hlv2 : IntKind.i64.wrap ((IntKind.u64.wrap lv).tmod 2) = l0 := (IntWalk.i64_left _).trans hlv
 have hn12 : IntKind.i64.wrap ((IntKind.u64.wrap at0).tmod (m : Int)) = (n1 : Int) := (IntWalk.i64_left _).trans hn1
 have hnbig : ¬ (60 : Int) < n := by omega
 have hnbig' : ¬ 60 < n := by omega
 have hmz : ((m : Int) == 0) = false := by simp; omega
 have hmz2 : ¬ m = 0 := by omega
 have hlb : 32 ≤ lim ∧ lim ≤ 1024 := by omega
 have hl1b : 33 ≤ lim1 ∧ lim1 ≤ 1025 := by omega
 clear hl1
 have hO' := Hh hO
 obtain ⟨Nz, hNz⟩ : ∃ z : Int, z = (N : Int) := ⟨_, rfl⟩
 simp only [← hNz] at hs1 hrs
 have hNc : (decide (lim ≤ m0) = false ∧ Nz = (m0 : Int)) ∨ (decide (lim ≤ m0) = true ∧ Nz = 0) := by
  rcases hN with ⟨g1, g2⟩ | ⟨g1, g2⟩
  · exact Or.inl ⟨decide_eq_false (by omega), by rw [hNz, g2]⟩
  · exact Or.inr ⟨decide_eq_true (by omega), by rw [hNz, g2]; rfl⟩
 have hnl : Hid (msg.length = n) := hn.symm
 clear hX56 hXw2 hXw hm2 hN hNz hl hl12 hlN hlZ hmb hn hO hSG hPU hsb hpbb h16 h32 hidb hsdb h48 ho1 ho2 ho3 hm hz hys hyb hV hvr hrr hv59 hx1
 have hl02 : 0 ≤ l0 ∧ l0 ≤ 1 := by omega
 clear hl0
 rcases hNc with ⟨hge, rfl⟩ | ⟨hge, rfl⟩
 all_goals
  go_enter Tryz.func6, Tryz.ntmps6
  have z1 := tt
  go_wp2_with (first
   | (clear z1; refine st_new rfl (rn_box (cs := u8s (id ++ sd)) H rfl rfl rfl) ?_; clear H; intro b6 w1 hb6 H; have z2 := tt)
   | (clear z2; refine st_val rfl (rn_loadAll (cs := u8s (id ++ sd)) H rfl rfl (.head _) rfl rfl hsz48.out) ?_; have HB := Hh H; have hb6w := H.lt (.head _); have O1 := Hh (hO'.out.mv H (by simp; omega)); clear H; have z3 := tt)
   | (clear z3; go_at_call 23; refine (hnw.out _).mono ?_; rintro e w2 ⟨kb, tb, rfl, hkb, htb, h3⟩; have G2 := Hh h3; have hkb2 := h3.lt (.head _); have htb2 := h3.lt (.tail _ (.head _)); have O2 := Hh (O1.out.mv h3 (by simp; omega)); clear h3; have z4 := tt)
   | (clear z4; refine st_val rfl (rn_cells rfl rfl rfl rfl hsz48.out (fun j v hj => by rw [(HB.out.call0 (G2.out.end0 (by simp; omega))).cell (.head _), Nat.zero_add]; exact hj)) ?_; have z5 := tt)
   | (clear z5; go_at_call 24; refine (hry.out _).mono ?_; rintro e w3 ⟨yk, yt, rfl, hyk, hyt, hK, h3⟩; have G3 := Hh (G2.out.call0 h3); have O3 := Hh (O2.out.mv h3 (by simp)); have K3 := Hh hK; have B3 := Hh h3.size; clear h3 hK O2; have z6 := tt)
   | (clear z6; go_at_call 25; refine (hmn.out _).mono ?_; rintro e w4 ⟨rfl, h3⟩; have G4 := Hh (G3.out.call0 h3); have O4 := Hh (O3.out.mv h3 (by simp)); have K4 := Hh (K3.out.mv h3 (by simp)); have B4 := Hh (Nat.le_trans B3.out h3.size); clear h3 G3 O3 K3 B3; have z7 := tt)
   | (clear z7; go_at_call 25; refine (hmn.out _).mono ?_; rintro e w40 ⟨rfl, h3⟩; have G40 := Hh (G4.out.call0 h3); have O40 := Hh (O4.out.mv h3 (by simp)); have K40 := Hh (K4.out.mv h3 (by simp)); have B40 := Hh (Nat.le_trans B4.out h3.size); clear h3 G4 O4 K4 B4; have z8 := tt)
   | (clear z8; go_at_call 26; refine (hs1.out kb tb w40 G40.out.self O40.out (fun j hj => by have := hO'.out.2 j hj; have := HB.out.size; omega)).mono ?_; rintro e w50 ⟨p1, c1, rfl, r1, L0, k1, k2, k3, h3⟩; have G5 : Hid (Own w1 w50 L0) := (by have g := Own.call (L1 := [_, _]) (L1' := L0) (L := []) G40.out ⟨h3, k2⟩ (fun j hj => Or.inl (k3 j hj)); rw [List.append_nil] at g; exact g); have L5 : Hid (∀ j ∈ L0.map (·.1), w1.heap.size ≤ j) := (fun j hj => (k2 j hj).elim (fun h => by simp at h; omega) (fun h => Nat.le_trans G40.out.size h)); have S50 := Hh r1.old; have KI := Hh k1; have K50 := Hh (K40.out.mvN h3 (fun hm => by have g1 := k2 _ hm; have g2 := K40.out.lt.1; rcases g1 with g1 | g1; (· simp at g1; omega); (· omega)) (fun hm => by have g1 := k2 _ hm; have g2 := K40.out.lt.2; rcases g1 with g1 | g1; (· simp at g1; omega); (· omega))); have O50 := Hh (O1.out.mv (G5.out.end0 L5.out) (by simp)); have e1 := r1.addr (by rw [hsl.out]; omega); clear h3 k1 k2 k3 r1 G40 O40 K40 B40; obtain ⟨g1, e1, hg1, _, _⟩ := e1; rw [hsl.out] at hg1; subst e1; have z9 := tt)
   | (clear z9; go_at_call 27; refine (hpb.out kb tb w50 L0 KI.out G5.out.self).mono ?_; rintro e w5 ⟨p3, c3, rfl, r3, h5⟩; have GX := Hh (G5.out.call0 h5); have S5 := Hh (S50.out.mv h5 (by simp)); have O5 := Hh (O50.out.mv h5 (by simp)); have K5 := Hh (K50.out.mv h5 (by simp)); have P5 := Hh r3.old; have e3 := r3.addr (by rw [hppl.out]; omega); clear h5 r3 S50 O50 K50 G5; obtain ⟨g3, e3, hg3, _, _⟩ := e3; rw [hppl.out] at hg3; subst e3; have H := Own.refl w5; have z10 := tt)
   | (clear z10; go_at_call 28; refine (hrp.out _ _ _ (K5.out.mv H (by simp))).mono ?_; rintro e w6 ⟨_, _, rfl, hY, h3⟩; have Y6 := Hh hY; clear hY; replace H := H.call0 h3; clear h3; have z11 := tt)
   | (clear z11; go_at_call 11; refine (hsm1.out _ _ _ (P5.out.mv H (by simp)) Y6.out).mono ?_; rintro e w7 ⟨rfl, h3⟩; replace H := H.call0 h3; clear h3; have z12 := tt)
   | (clear z12; go_at_call 29; refine (hrs.out _ _ _ (K5.out.mv H (by simp)) (O5.out.mv H (by simp))).mono ?_; rintro e w8 ⟨_, _, rfl, hY, h3⟩; have Y8 := Hh hY; clear hY; replace H := H.call0 h3; clear h3; have z13 := tt)
   | (clear z13; go_at_call 11; refine (hsm2.out _ _ _ (S5.out.mv H (by simp)) Y8.out).mono ?_; rintro e w9 ⟨rfl, h3⟩; replace H := H.call0 h3; clear h3; have z14 := tt)
   | (clear z14; go_at_call 30; refine (hv0.out _ _ _ (P5.out.mv H (by simp)) (O5.out.mv H (by simp)) (S5.out.mv H (by simp))).mono ?_; rintro e w10 ⟨rfl, h3⟩; replace H := H.call0 h3; clear h3; have PX := Hh (P5.out.mv H (by simp)); have SX := Hh (S5.out.mv H (by simp)); have OX := Hh (O5.out.mv H (by simp)); have GY := Hh (GX.out.call0 H); clear H GX P5 S5 O5 K5 Y6 Y8; have H := Own.refl w10; have z15 := tt)
   | (clear z15; refine st_new rfl (rn_buildSlice (e := 5) (cs := []) H rfl (fun w' => by kernel_rfl)) ?_; clear H; intro b5 w11 hb5 M; have E := BufV.lit (n := 0) (sz := 1) M hb5 rfl (by omega); have S11 := Hh (SX.out.mv E.own0 (by simp)); clear M hb5; have z16 := tt)
   | (clear z16; refine st_appV rfl E elem_u8 rfl rfl rfl rfl (m := m) (ds := u8s SG) (by have h := S11.out.1; rw [BytesAt, hsl.out] at h; exact h) (by rw [length_ints, Nat.mul_one]; exact hsl.out) (oneCell_ints _ _) (by omega) (by omega) ?_; clear E S11; intro p6 c6 w12 E; rw [List.nil_append, Nat.zero_add] at E; rw [Nat.zero_add]; have M9 : Buf 5 .u8 w10 w12 [] (.slice p6 m c6) SG := (by show Buf _ _ _ _ _ _ _; unfold Buf; rw [hsl.out]; exact E); clear E; have E := M9; have e6 := M9.addr0 (by rw [hsl.out]; omega); clear M9; obtain ⟨gc, e6, hgc, _, _⟩ := e6; rw [hsl.out] at hgc; subst e6; have z17 := tt)
   | (clear z17; refine st_val rfl (rn_cell rfl rfl rfl rfl (bytes_cell0 E.bytesAt hzg.out)) ?_; have z18 := tt)
   | (clear z18; refine st_storeB (i := n1) (z := bits .xor .u8 z x1) rfl E rfl rfl rfl (by kernel_rfl) hi1.out ?_; clear E; intro w13 cs9 G E; clear G; rw [hys'.out] at E; have z19 := tt)
   | (clear z19; go_at_call 30; refine (hv1.out _ _ _ (PX.out.mv E.own0 (by simp)) (OX.out.mv E.own0 (by simp)) E.old0).mono ?_; rintro e w14 ⟨rfl, h3⟩; replace E := E.call0 h3; clear h3; have z20 := tt)
   | (clear z20; go_at_call 31; refine (hr1.out _ _ _ (PX.out.mv E.own0 (by simp)) (OX.out.mv E.own0 (by simp)) E.old0).mono ?_; rintro e w15 ⟨rfl, h3⟩; replace E := E.call0 h3; clear h3; have z21 := tt)
   | (clear z21; go_at_call 30; refine (hvc.out _ _ _ (PX.out.mv E.own0 (by simp)) (OX.out.mv E.own0 (by simp)) (hcto.out _ _ _ hg1 (SX.out.mv E.own0 (by simp)))).mono ?_; rintro e w16 ⟨rfl, h3⟩; replace E := E.call0 h3; clear h3; have z22 := tt)
   | (clear z22; refine st_newG rfl (rn_buildSlice (e := 5) (cs := u8s [0]) (Own.refl w16) rfl (fun w' => by kernel_rfl)) ?_; intro b2 w17 hb2 M; have E2 := E.call0 (M.end0 (by simpa using hb2)); clear E; have E := E2; clear E2; have z23 := tt)
   | (clear z23; refine st_appW rfl E elem_u8 rfl rfl rfl rfl (ys := [0]) (Own.lit M rfl) (by rw [hyl.out]; simp; omega) (by rw [hyl.out]; simp; omega) (m := m + 1) (by rw [hyl.out]; rfl) ?_; clear M E; intro p13 c13 w18 E; have z24 := tt)
   | (clear z24; go_at_call 30; refine (hvl.out _ _ _ (PX.out.mv E.own0 (by simp)) (OX.out.mv E.own0 (by simp)) E.old0).mono ?_; rintro e w19 ⟨rfl, h3⟩; replace E := E.call0 h3; clear h3; have z25 := tt)
   | (clear z25; go_at_call 30; refine (hv59'.out _ _ _ (hpto.out _ _ _ hg3 (PX.out.mv E.own0 (by simp))) (OX.out.mv E.own0 (by simp)) (SX.out.mv E.own0 (by simp))).mono ?_; rintro e w20 ⟨rfl, h3⟩; replace E := E.call0 h3; clear h3; have H := E.own0; clear E; have z26 := tt)
   | (clear z26; go_at_call 25; refine (hmn.out _).mono ?_; rintro e w21 ⟨rfl, h3⟩; replace H := H.call0 h3; clear h3; have z27 := tt)
   | (clear z27; go_at_call 26; refine (hfl.out kb tb _ L0 KI.out (GY.out.call0 H).self).mono ?_; rintro e w22 ⟨rfl, h3⟩; replace H := H.call0 h3; clear h3; have z28 := tt)
   | (clear z28; go_at_call 26; refine (hng.out _ kb).mono ?_; rintro e w23 ⟨rfl, h3⟩; replace H := H.call0 h3; clear h3; have z29 := tt)
   | (clear z29; go_at_call 22; refine (hto.out _).mono ?_; rintro e w24 ⟨rfl, h3⟩; replace H := H.call0 h3; clear h3; have z30 := tt))
  have HE := Hh ((HB.out.call0 ((GY.out.call0 H).end0 L5.out)).end0 (by simpa using hb6))
  clear H
  go_ret
  exact ⟨rfl, HE.out⟩
set_option maxRecDepth 100000 in
theorem hssAsks_row (w : World) (ss : List Int) (h48 : ss.length = 48) (hsb : ∀ i, i < ss.length → 0 ≤ ss[i]?.getD 0 ∧ ss[i]?.getD 0 < 256) (lv : Int) (_ : IntKind.i64.min ≤ lv) (_ : lv ≤ IntKind.i64.max) (n0 : Int) (_ : IntKind.i64.min ≤ n0) (_ : n0 ≤ IntKind.i64.max)
 (mv : Value) (msg : List Int) (hm : BytesAt w mv msg) (hml : ∀ k, blk mv = some k → k < w.heap.size) (hmb : ∀ i, i < msg.length → 0 ≤ msg[i]?.getD 0 ∧ msg[i]?.getD 0 < 256)
 (at0 : Int) (_ : IntKind.i64.min ≤ at0) (_ : at0 ≤ IntKind.i64.max) (x1 : Int) (hx1 : IntKind.u8.min ≤ x1) (hx2 : x1 ≤ IntKind.u8.max) :
 Calls Tryz.prog 6 #[.agg (u8s ss).toArray, .int .i64 lv, .int .i64 n0, mv, .int .i64 at0, .int .u8 x1] w fun e w' => e = .returned (.bool true) ∧ Own w w' [] := by
 rename_i q1 q2 q3 q4 q5 q6
 clear q1 q2 q3 q4 q5 q6
 have hx3 : 0 ≤ x1 ∧ x1 < 256 := by
  have e1 : IntKind.u8.min = 0 := by decide
  have e2 : IntKind.u8.max = 255 := by decide
  rw [e1] at hx1
  rw [e2] at hx2
  omega
 clear hx1 hx2
 have H := Own.refl w
 have hO : Old w mv msg := ⟨hm, hml⟩
 obtain ⟨pm, cm, rfl⟩ := hO.shape
 obtain ⟨n, hn⟩ : ∃ n, n = msg.length := ⟨_, rfl⟩
 rw [← hn] at hO ⊢
 obtain ⟨id, seed, rfl, h16, h32⟩ := split48 h48
 have hidb : IsBytes id := isBytes_left hsb
 have hsdb : IsBytes seed := isBytes_mem.2 fun x hx => isBytes_mem.1 hsb x (List.mem_append_right _ hx)
 have hto := Hh htold_any
 by_cases hbig : 60 < n
 · clear hm hml hmb hO hn h48 h16 h32 hsb hidb hsdb hx3
   go_enter Tryz.func6, Tryz.ntmps6
   have z1 := tt
   go_wp2_with (first
    | (clear z1; refine st_new rfl (rn_box (cs := u8s (id ++ seed)) H rfl rfl rfl) ?_; clear H; intro b7 w1 hb7 H; have z2 := tt)
    | (clear z2; go_at_call 22; refine (hto.out _).mono ?_; rintro e w2 ⟨rfl, h3⟩; replace H := H.call0 h3; clear h3; have z3 := tt))
   have h1 := Hh (H.end0 (by simpa using hb7))
   clear H
   go_ret
   exact ⟨rfl, h1.out⟩
 obtain ⟨k0, hk0, hk2⟩ := rem_wrap lv 2 (by omega) (by omega)
 have hc : k0 = 0 ∨ k0 = 1 := by omega
 rcases hc with rfl | rfl
 · obtain ⟨m0, hm0, hm2⟩ := rem_wrap n0 33 (by omega) (by omega)
   by_cases hc : m0 < 32
   · exact hssAsks_m w id seed h16 h32 hidb hsdb lv n0 at0 x1 hx3 0 1 32 33 m0 m0 (Or.inl ⟨rfl, rfl⟩) (Or.inl rfl) rfl hk0 (by decide) rfl hm0 (Or.inl ⟨hc, rfl⟩) pm n cm msg hO hmb hn (by omega)
   · exact hssAsks_m w id seed h16 h32 hidb hsdb lv n0 at0 x1 hx3 0 1 32 33 m0 0 (Or.inl ⟨rfl, rfl⟩) (Or.inl rfl) rfl hk0 (by decide) rfl hm0 (Or.inr ⟨by omega, rfl⟩) pm n cm msg hO hmb hn (by omega)
 · obtain ⟨m0, hm0, hm2⟩ := rem_wrap n0 1025 (by omega) (by omega)
   by_cases hc : m0 < 1024
   · exact hssAsks_m w id seed h16 h32 hidb hsdb lv n0 at0 x1 hx3 1 2 1024 1025 m0 m0 (Or.inr ⟨rfl, rfl⟩) (Or.inr rfl) rfl hk0 (by decide) rfl hm0 (Or.inl ⟨hc, rfl⟩) pm n cm msg hO hmb hn (by omega)
   · exact hssAsks_m w id seed h16 h32 hidb hsdb lv n0 at0 x1 hx3 1 2 1024 1025 m0 0 (Or.inr ⟨rfl, rfl⟩) (Or.inr rfl) rfl hk0 (by decide) rfl hm0 (Or.inr ⟨by omega, rfl⟩) pm n cm msg hO hmb hn (by omega)
end Go.Proofs.YtfihlmnbonnekaaGreat
