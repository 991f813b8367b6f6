/- ots: Candidate. -/
import Derived.Test.YtfihlmnbonnekaaPrg7
import Derived.Test.YtfihlmnbonnekaaEffF
namespace Go.Proofs.Ytfihlmnbonnekaa
open Go.RowKit

theorem info_rp : ((Try.prog.info? 89).bind (·.zero)).map (fun z => z.cells.toList) = some [.pointer none] := by kernel_rfl
theorem info_ints : ((Try.prog.info? 39).bind (·.zero)).map (fun z => z.cells.toList) = some [.slice none 0 0] := by kernel_rfl

theorem long_k (w : World) (k : Nat) (hk : k = 1 ∨ k = 2 ∨ k = 4 ∨ k = 8) : Calls Try.prog 53 #[.int .i64 k] w fun e w' => e = .returned (.int .i64 ((36 + 32 * chN k : Nat) : Int)) ∧ Own w w' [] := by
  rcases hk with rfl | rfl | rfl | rfl <;> exact long_any w _

/-- a piece of a signature (whole for whatever n) -/
def pieceOf (sig : List Int) (n : Nat) : List Int := ((sig.drop (36 + 32 * n)).take 32 ++ List.replicate 32 0).take 32
theorem length_pieceOf (sig : List Int) (n : Nat) : (pieceOf sig n).length = 32 := by simp [pieceOf]
theorem pieceOf_eq {sig : List Int} {n : Nat} (h : 36 + 32 * n + 32 ≤ sig.length) : pieceOf sig n = (sig.drop (36 + 32 * n)).take 32 := by
  unfold pieceOf
  rw [List.take_left' (by rw [List.length_take, List.length_drop]; omega)]
theorem isBytes_mem {xs : List Int} : IsBytes xs ↔ ∀ x ∈ xs, 0 ≤ x ∧ x < 256 := by
  constructor
  · intro h x hx
    obtain ⟨i, hi, rfl⟩ := List.getElem_of_mem hx
    have := h i hi
    simpa [hi] using this
  · intro h i hi
    have e : xs[i]?.getD 0 = xs[i] := by simp [hi]
    rw [e]
    exact h _ (List.getElem_mem hi)
theorem isBytes_take {xs : List Int} (h : IsBytes xs) (n : Nat) : IsBytes (xs.take n) := isBytes_mem.2 fun x hx => isBytes_mem.1 h x (List.mem_of_mem_take hx)
theorem isBytes_drop {xs : List Int} (h : IsBytes xs) (n : Nat) : IsBytes (xs.drop n) := isBytes_mem.2 fun x hx => isBytes_mem.1 h x (List.mem_of_mem_drop hx)
theorem isBytes_zeros (n : Nat) : IsBytes (List.replicate n 0) := isBytes_mem.2 fun x hx => by rw [List.eq_of_mem_replicate hx]; omega
theorem isBytes_pieceOf {sig : List Int} (h : IsBytes sig) (n : Nat) : IsBytes (pieceOf sig n) := isBytes_take (isBytes_app (isBytes_take (isBytes_drop h _) _) (isBytes_zeros _)) _
def candX (id : List Int) (q k : Nat) (M sig : List Int) (n : Nat) : List Int := stepsC (pre22 id q n) (dgN M k n) (pieceOf sig n) (2 ^ k - 1 - dgN M k n)
def candOk (k : Nat) (sig : List Int) : Bool := decide (sig.length = 36 + 32 * chN k) && decide (sig.take 4 = numB (cdN k) 4)
def candK (id : List Int) (q k : Nat) (msg sig : List Int) : List Int := endsOf id q (flatX (candX id q k (msgOf id q ((sig.drop 4).take 32) msg) sig) (chN k))
def candOf (id : List Int) (q k : Nat) (msg sig : List Int) : List Int := if candOk k sig then candK id q k msg sig else List.replicate 32 0
def candE (k : Nat) (sig : List Int) : Int := if candOk k sig then 0 else 3

set_option maxRecDepth 100000 in
set_option maxHeartbeats 4000000 in
theorem cand_len (w : World) (id : List Int) (q k : Nat) (hq : q < 32) (hk : k = 1 ∨ k = 2 ∨ k = 4 ∨ k = 8) (mv sv : Value) (sig : List Int) (hs : Old w sv sig) (hsl : sig.length ≤ 1000000) (hne : sig.length ≠ 36 + 32 * chN k) :
    Calls Try.prog 54 #[.agg (u8s id).toArray, .int .i64 q, .int .i64 k, mv, sv] w fun e w' => e = .returned (.tuple #[.agg (u8s (List.replicate 32 0)).toArray, .int .i64 3]) ∧ Own w w' [] := by
  have H := Own.refl w
  have hmay : Hid (∀ w', Calls Try.prog 81 #[.int .i64 q, .int .i64 k] w' fun e w'' => e = .returned (.bool true) ∧ Own w' w'' []) := fun w' => by rw [← may_k hq hk]; exact may_any w' q k
  have hlo := Lib.hid (fun w' => long_k w' k hk)
  obtain ⟨lg, hlg⟩ : ∃ l, l = 36 + 32 * chN k := ⟨_, rfl⟩
  rw [← hlg] at hlo hne
  have hnew := Lib.hid (fun w' (h : Old w' sv sig) => rnew_any w' sv sig h hsl)
  have hO := Lib.hid (fun w' L (h : Own w w' L) (hn : ∀ k ∈ L.map (·.1), w.heap.size ≤ k) => hs.mv h hn)
  obtain ⟨ps, cs, rfl⟩ := hs.shape
  obtain ⟨sn, hsn⟩ : ∃ n, n = sig.length := ⟨_, rfl⟩
  rw [← hsn] at hO hnew hne ⊢
  clear hlg hs hsl hsn hk
  have hne1 : ((sn : Int) == (lg : Int)) = false := by rw [beq_eq_false_iff_ne]; omega
  have hne2 : ¬ (sn : Int) = (lg : Int) := by omega
  go_enter Try.func54, Try.ntmps54
  have tok1 : True := trivial
  go_wp2_with (first
    | (clear tok1; refine st_new rfl (rn_box (cs := u8s id) H rfl rfl rfl) ?_; clear H; intro b5 w1 hb5 H; have tok2 : True := trivial)
    | (clear tok2; refine st_new rfl (rn_box (cs := i64s [(q : Int)]) H rfl rfl rfl) ?_; clear H; intro b6 w2 hb6 H; have tok3 : True := trivial)
    | (clear tok3; refine st_new rfl (rn_alloc H rfl info_hash) ?_; clear H; intro b10 w3 hb10 H; have tok4 : True := trivial)
    | (refine st_val rfl (rn_load H rfl rfl (.tail _ (.head _)) rfl rfl rfl) ?_)
    | (clear tok4; go_at_call 81; refine (hmay.out _).mono ?_; rintro e w4 ⟨rfl, h3⟩; have H2 := H.call0 h3; clear H h3; have H := H2; clear H2; have tok5 : True := trivial)
    | (clear tok5; go_at_call 50; refine (hnew.out _ (hO.out _ _ H (by simp; omega))).mono ?_; rintro e w5 ⟨r, pr, cr, rfl, hr, _, _, h3⟩; have gr := Nat.le_trans H.size hr; have H2 := H.callNew h3 hr; clear H h3; have H := H2; clear H2; have tok6 : True := trivial)
    | (clear tok6; refine st_new rfl (rn_alloc H rfl info_rp) ?_; clear H; intro b12 w6 hb12 H; have tok7 : True := trivial)
    | (clear tok7; refine st_skip rfl (rn_store (v := .pointer (some ⟨r, 0, none⟩)) H rfl rfl rfl (by kernel_rfl) .head (by simp) rfl) ?_; clear H; intro w7 H; have tok8 : True := trivial)
    | (clear tok8; go_at_call 53; refine (hlo.out _).mono ?_; rintro e w8 ⟨rfl, h3⟩; have H2 := H.call0 h3; clear H h3; have H := H2; clear H2; have tok9 : True := trivial)
    | (clear tok9; refine st_skip rfl (rn_storeAll (vs := u8s (List.replicate 32 0)) H rfl rfl rfl (by kernel_rfl) (.tail (.tail .head)) (by kernel_rfl) (oneCell_ints _ _)) ?_; clear H; intro w9 H))
  refine fin_cell2 rfl H rfl (.tail _ (.tail _ (.head _))) rfl rfl (by kernel_rfl) rfl rfl ⟨rfl, ?_⟩
  exact H.end0 (by simp; omega)

end Go.Proofs.Ytfihlmnbonnekaa
