/- chirographlaw1.ShaKnown: the walk. -/
import Derived.Test.YtilglaacegjdoaaLong
namespace Go.Proofs.Ytilglaacegjdoaa
open Go.RowKit

/-- reads as these bytes, and lies where there is memory -/
def BIn (xs : List Int) : World → Value → Prop := fun w v => (∃ p c, v = .slice p xs.length c) ∧ BytesAt w v xs ∧ ∀ k, v.ownBlock = some k → k < w.heap.size
theorem BIn.mono (xs : List Int) : Mono (BIn xs) := fun _ _ _ h ⟨h1, h2, h3⟩ => ⟨h1, SlAt.own0 h2 h, fun k hk => Nat.lt_of_lt_of_le (h3 k hk) h.size⟩

section
variable {P : Program} {ops : Array Oper} {w : World} {K : (World → (Nat → Prop) → Prop) → Act → Prop} {sps : List Sp} {o : Oper} {rest : List Oper} {F : World → (Nat → Prop) → Prop} {a : Act} {v : Value}
theorem sp_bytesOf {src dst e : TypeId} {x : Operand} {s : ByteArray} (hw : Region.wanted o (yielded ops a.tmps) = true) (ho : o.op = .convert src dst x) (hs : P.underlying src = some .string) (hd : P.underlying dst = some (.slice e)) (he : P.underlying e = some (.int .u8)) (hx : a.eval x = .string s)
    (h2 : ∀ v, wpSp P ops w K sps rest (fun w' S => F w' S ∧ ∀ d, o.dst = some d → S d → BIn (numsOf s) w' v) (a.put o.dst v)) : wpSp P ops w K (.rel (BIn (numsOf s)) :: sps) (o :: rest) F a := by
  refine sp_rel (BIn.mono _) hw (fun w' hw' hF => ?_) h2
  obtain ⟨p, c, w1, hr, h1, h3, h4⟩ := rn_bytesOf (P := P) (w := w') ho hs hd he hx (length_numsOf s).symm
  exact yieldsTo_val' hr ⟨h1, ⟨_, _, rfl⟩, h3, h4⟩
end

def kText : Nat → ByteArray
  | 0 => ⟨#[]⟩
  | 1 => ⟨#[97, 98, 99]⟩
  | _ => "abcdbcdecdefdefgefghfghighijhijkijkljklmklmnlmnomnopnopq".toUTF8
def kSum : Nat → ByteArray
  | 0 => "e3b0c44298fc1c149afbf4c8996fb92427ae41e4649b934ca495991b7852b855".toUTF8
  | 1 => "ba7816bf8f01cfea414140de5dae2223b00361a396177a9cb410ff61f20015ad".toUTF8
  | _ => "248d6a61d20638b8e5c026930c3e6039a33ce45964ff2167f6ecedd419db06c1".toUTF8

theorem known0 : strOfNums (hexs (sha (numsOf (kText 0)))) = kSum 0 := by kernel_rfl
theorem known1 : strOfNums (hexs (sha (numsOf (kText 1)))) = kSum 1 := by kernel_rfl
theorem known2 : strOfNums (hexs (sha (numsOf (kText 2)))) = kSum 2 := by kernel_rfl
theorem known {n : Nat} (h : n < 3) : strOfNums (hexs (sha (numsOf (kText n)))) = kSum n := by
  match n, h with
  | 0, _ => exact known0
  | 1, _ => exact known1
  | 2, _ => exact known2

theorem size_str : (Try.prog.info? 9).map (·.size) = some 1 := by kernel_rfl

theorem three_at {f : Nat → ByteArray} {n : Nat} (h : n < 3) : [Value.string (f 0), .string (f 1), .string (f 2)][0 + (n : Int).toNat * 1]? = some (.string (f n)) := by
  match n, h with
  | 0, _ => rfl
  | 1, _ => rfl
  | 2, _ => rfl

theorem short {n : Nat} (h : n < 3) : (numsOf (kText n)).length ≤ 140737488351232 := by
  match n, h with
  | 0, _ => exact Nat.le_of_ble_eq_true (by kernel_rfl)
  | 1, _ => exact Nat.le_of_ble_eq_true (by kernel_rfl)
  | 2, _ => exact Nat.le_of_ble_eq_true (by kernel_rfl)

set_option maxRecDepth 100000 in
set_option maxHeartbeats 1000000 in
theorem shaKnown_row (w : World) (x : Int) (_ : IntKind.i64.min ≤ x) (_ : x ≤ IntKind.i64.max) :
    Calls Try.prog 8 #[.int .i64 x] w fun e w' => e = .returned (.bool true) ∧ Own w w' [] := by
  have H := Own.refl w
  obtain ⟨n, hn0, hn1⟩ := rem_wrap x 3 (by omega) (by omega)
  have hn := Lib.hid hn0
  have hn2 : Hid (n < 3) := by show n < 3; omega
  clear hn0 hn1
  have tok1 : True := trivial
  go_enter Try.func8, Try.ntmps8
  go_wp2_with (first
    | (clear tok1; refine st_new rfl (rn_buildSlice (e := 9) (cs := [.string (kText 0), .string (kText 1), .string (kText 2)]) H rfl (fun w' => by kernel_rfl)) ?_; clear H; intro b1 w1 hb1 H; have tok2 : True := trivial)
    | (clear tok2; refine st_new rfl (rn_buildSlice (e := 9) (cs := [.string (kSum 0), .string (kSum 1), .string (kSum 2)]) H rfl (fun w' => by kernel_rfl)) ?_; clear H; intro b2 w2 hb2 H))
  rw [hn.out]
  obtain ⟨S, hS⟩ : ∃ S, sha (numsOf (kText n)) = S := ⟨_, rfl⟩
  have lS : Hid (S.length = 32) := hS ▸ length_sha _
  have iS : Hid (IsBytes S) := hS ▸ isBytes_sha _
  have hS' := Lib.hid hS
  have hk : Hid (strOfNums (hexs S) = kSum n) := hS ▸ known hn2.out
  clear hS
  have hload1 : Hid (∀ w', Own w2 w' [] → Own w w' [(b2, [.string (kSum 0), .string (kSum 1), .string (kSum 2)], 9), (b1, [.string (kText 0), .string (kText 1), .string (kText 2)], 9)]) := fun w' h => H.call0 h
  have hend : Hid (∀ w', Own w2 w' [] → Own w w' []) := fun w' h => (H.call0 h).end0 (by simp; exact ⟨hb2, hb1⟩)
  have hnn := Lib.hid hn
  clear H hn
  refine region_grow 15 (by kernel_rfl) (by kernel_rfl) (by kernel_rfl) [.val (.bool true), .val (.bool true), .val (.slice (some ⟨b1, 0, none⟩) 3 3), .val (.int .i64 n), .val (.pointer (some ⟨b1, 0 + (n : Int).toNat * 1, none⟩)), .val (.string (kText n)), .rel (BIn (numsOf (kText n))), .val (.agg (u8s S).toArray), .val (.string (strOfNums (hexs S))), .val (.slice (some ⟨b2, 0, none⟩) 3 3), .val (.int .i64 n), .val (.pointer (some ⟨b2, 0 + (n : Int).toNat * 1, none⟩)), .val (.string (strOfNums (hexs S))), .val (.bool true), .val (.bool true)] rfl ?_
  have tok1 : True := trivial
  try go_frame
  repeat (first
    | (clear tok1; refine sp_callN (args := #[]) rfl rfl (by simp) Try.func9 (by kernel_rfl) (by kernel_rfl) (fun w' _ _ => told_any w') ?_; go_frame; have tok2 : True := trivial)
    | (refine sp_run (v := .pointer (some ⟨b1, 0 + (n : Int).toNat * 1, none⟩)) rfl (fun w' hw' _ => rn_idxSl (j := (n : Int)) rfl rfl size_str rfl rfl (by omega) (by have := hn2.out; omega)) ?_; go_frame)
    | (refine sp_run (v := .string (kText n)) rfl (fun w' hw' _ => rn_load (hload1.out w' hw') rfl rfl (.tail _ (.head _)) rfl rfl (three_at hn2.out)) ?_; go_frame)
    | (clear tok2; refine sp_bytesOf rfl rfl rfl rfl rfl rfl ?_; intro v18; go_frame; have tok3 : True := trivial)
    | (clear tok3; refine sp_callN (v := .agg (u8s S).toArray) (args := #[v18]) rfl rfl (by simp [Act.eval]) Try.func10 (by kernel_rfl) (by kernel_rfl) (fun w' hw' hF => hS'.out ▸ (shaSum_any w' v18 _ (hF.2 _ rfl (List.mem_of_elem_eq_true (by kernel_rfl))).2.1 (hF.2 _ rfl (List.mem_of_elem_eq_true (by kernel_rfl))).2.2 (short hn2.out))) ?_; go_frame; have tok4 : True := trivial)
    | (clear tok4; refine sp_callN (args := #[.agg (u8s S).toArray]) rfl rfl (by simp [Act.eval]) Try.func12 (by kernel_rfl) (by kernel_rfl) (fun w' hw' _ => shaHex_any w' S lS.out iS.out) ?_; go_frame)
    | (refine sp_run (v := .pointer (some ⟨b2, 0 + (n : Int).toNat * 1, none⟩)) rfl (fun w' hw' _ => rn_idxSl (j := (n : Int)) rfl rfl size_str rfl rfl (by omega) (by have := hn2.out; omega)) ?_; go_frame)
    | (refine sp_run (v := .string (strOfNums (hexs S))) rfl (fun w' hw' _ => hk.out ▸ rn_load (hload1.out w' hw') rfl rfl (.head _) rfl rfl (three_at (f := kSum) hn2.out)) ?_; go_frame)
    | (refine sp_val (fun w' hw' hF => ?_) ⟨_, rfl, Nat.le_of_ble_eq_true rfl⟩ ?_
       · go_big_quiet_step (fail)
         exact rfl
       go_frame))
  refine sp_nil ?_
  intro w' hw' _
  have H' := Lib.hid (hend.out w' hw')
  clear hload1 hend
  simp only [List.drop_succ_cons, List.drop_zero]
  go_wp2_with fail
  go_ret
  exact ⟨rfl, H'.out⟩
end Go.Proofs.Ytilglaacegjdoaa
