/- The two hexes. -/
import Derived.Test.YtilglaacegjdoaaHash
import Derived.Test.YtilglaacegjdoaaGrow
namespace Go.Proofs.Ytilglaacegjdoaa
open Go.RowKit

/-- the digits of bytes -/
def hexs (hs : List Int) : List Int := hs.flatMap fun x => [hexD (x / 16), hexD (x % 16)]

theorem length_hexs (hs : List Int) : (hexs hs).length = 2 * hs.length := by
  induction hs with
  | nil => rfl
  | cons x hs ih => simp only [hexs, List.flatMap_cons, List.length_append, List.length_cons, List.length_nil] at ih ⊢; omega

theorem hexs_step {hs : List Int} {i : Nat} (h : i < hs.length) : hexs (hs.take (i + 1)) = hexs (hs.take i) ++ [hexD (hs[i]?.getD 0 / 16), hexD (hs[i]?.getD 0 % 16)] := by
  rw [List.take_succ_eq_append_getElem h]
  unfold hexs
  rw [List.flatMap_append]
  simp [h]

def hexTab : ByteArray := "0123456789abcdef".toUTF8

theorem hexTab_get : ∀ n : Nat, n < 16 → (hexTab[n]?).map (fun b => (b.toNat : Int)) = some (hexD n) := by decide +kernel

theorem hexTab_at {i : Int} (h0 : 0 ≤ i) (h1 : i < 16) : (hexTab[i.toNat]?).map (fun b => (b.toNat : Int)) = some (hexD i) := by
  have := hexTab_get i.toNat (by omega)
  rwa [Int.toNat_of_nonneg h0] at this

def IsBytes (hs : List Int) : Prop := ∀ i, i < hs.length → 0 ≤ hs[i]?.getD 0 ∧ hs[i]?.getD 0 < 256

set_option maxRecDepth 100000 in
set_option maxHeartbeats 1000000 in
theorem shaHex_any (w : World) (hs : List Int) (hl : hs.length = 32) (hb : IsBytes hs) :
    Calls Try.prog 12 #[.agg (u8s hs).toArray] w fun e w' => e = .returned (.string (strOfNums (hexs hs))) ∧ Own w w' [] := by
  have H := Own.refl w
  have hl' := Lib.hid hl
  have hb' := Lib.hid hb
  clear hl hb
  go_enter Try.func12, Try.ntmps12
  have hsz : Hid ((Try.prog.info? 25).map (·.size) = some (u8s hs).length) := by show _ = _; rw [show (u8s hs).length = 32 by simpa [ints] using hl'.out]; exact size_hash
  go_wp2_with (first
    | (refine st_new rfl (rn_box (cs := u8s hs) H rfl rfl rfl) ?_; clear H; intro r w1 hr1 H)
    | (refine st_val rfl (rn_loadAll H rfl rfl (.head _) rfl rfl hsz.out) ?_))
  have B : Buf 5 .u8 w w1 [(r, u8s hs, 25)] (.slice none 0 0) [] := Buf.nil H
  clear H hsz
  go_loopw [3, 7] (fun v3 v7 wr => ∃ i p cp, i ≤ 32 ∧ v7 = .int .i64 ((i : Nat) : Int) ∧ v3 = .slice p (2 * i) cp ∧ Buf 5 .u8 w wr [(r, u8s hs, 25)] v3 (hexs (hs.take i))) (fun _ v7 _ => (32 - intOf v7).toNat)
  case atStart => exact ⟨0, none, 0, by omega, rfl, rfl, B⟩
  case round =>
    clear B
    obtain ⟨i, p, cp, hi, rfl, rfl, B⟩ := hrel
    by_cases hi2 : i < 32
    · have hx := hb'.out i (by rw [hl'.out]; exact hi2)
      have hstep := Lib.hid (hexs_step (hs := hs) (i := i) (by rw [hl'.out]; exact hi2))
      have hlen : Hid ((hexs (hs.take i)).length = 2 * i) := by show _ = _; rw [length_hexs, List.length_take, hl'.out]; omega
      go_wp2_with (refine st_val rfl (rn_idxAgg (cs := hs) rfl rfl size_u8 rfl rfl rfl rfl (by omega) (by rw [hl'.out]; omega) hl'.out) ?_)
      generalize hs[i]?.getD 0 = x at hx hstep ⊢
      have hq0 : 0 ≤ x / 16 := by omega
      have hq1 : x / 16 < 16 := by omega
      have hr0 : 0 ≤ x % 16 := by omega
      have hr1 : x % 16 < 16 := by omega
      have hq := Lib.hid (hexTab_at hq0 hq1)
      have hr := Lib.hid (hexTab_at hr0 hr1)
      refine region_grow 8 (by kernel_rfl) (by kernel_rfl) (by kernel_rfl) [.val (.slice p (2 * i) cp), .val (.int .u8 x), .val (.int .u8 (x / 16)), .val (.int .u8 (hexD (x / 16))), .val (.int .u8 x), .val (.int .u8 (x % 16)), .val (.int .u8 (hexD (x % 16))), .rel (SlIs 2 (u8s [hexD (x / 16), hexD (x % 16)]))] rfl ?_
      repeat (first
        | (refine sp_run rfl (fun w' hw' hF => rn_idxStr (s := hexTab) rfl rfl rfl rfl hq0 hq.out) ?_; go_frame)
        | (refine sp_run rfl (fun w' hw' hF => rn_idxStr (s := hexTab) rfl rfl rfl rfl hr0 hr.out) ?_; go_frame)
        | (refine sp_lit (el := 5) rfl rfl rfl (fun w' => by kernel_rfl) ?_; intro v17; go_frame)
        | (refine sp_val (fun w' hw' hF => ?_) ⟨_, rfl, Nat.le_of_ble_eq_true rfl⟩ ?_
           · go_big_quiet_step (fail)
             exact rfl
           go_frame))
      refine sp_nil ?_
      intro w' hw' hF
      obtain ⟨⟨p7, c7, rfl⟩, h7⟩ := hF.2 _ rfl trivial
      have B' := B.call0 hw'
      have h7' := Lib.hid h7
      clear B hw' hF hq hr hq0 hq1 hr0 h7
      simp only [List.drop_succ_cons, List.drop_zero]
      go_wp2_with (refine st_app (ys := [hexD (x / 16), hexD (x % 16)]) rfl B' elem_u8 rfl rfl rfl rfl h7'.out (by rw [hlen.out]; simp; omega) (by rw [hlen.out]; simp; omega) ?_; clear B'; intro p6 c6 w6 B; rw [hlen.out, ← hstep.out] at B; rw [hlen.out])
      exact ⟨⟨i + 1, _, _, by omega, by go_num, rfl, B⟩, by simp [intOf]; omega⟩
    · obtain rfl : i = 32 := by omega
      have he : Hid (hs.take 32 = hs) := List.take_of_length_le (by rw [hl'.out]; omega)
      rw [he.out] at B
      have hcv : (convert 22 9 (.slice p 64 cp)).run Try.prog wr = .ok (.string (strOfNums (hexs hs))) wr := run_toStr (e := 5) rfl rfl rfl B.bytesAt
      go_wp2_with (fail)
      have H := Lib.hid (B.own0.end0 (by simp; omega))
      go_ret
      exact ⟨rfl, H.out⟩

set_option maxRecDepth 100000 in
set_option maxHeartbeats 1000000 in
theorem refHex_any (w : World) (hs : List Int) (hl : hs.length = 32) (hb : IsBytes hs) :
    Calls Try.prog 13 #[.agg (u8s hs).toArray] w fun e w' => e = .returned (.string (strOfNums (hexs hs))) ∧ Own w w' [] := by
  have H := Own.refl w
  have hl' := Lib.hid hl
  have hb' := Lib.hid hb
  clear hl hb
  go_enter Try.func13, Try.ntmps13
  go_wp2_with (refine st_new rfl (rn_box (cs := u8s hs) H rfl rfl rfl) ?_; clear H; intro r w1 hr1 H)
  have B : Buf 5 .u8 w w1 [(r, u8s hs, 25)] (.slice none 0 0) [] := Buf.nil H
  clear H
  go_loopw [3, 4] (fun v3 v7 wr => ∃ i p cp, i ≤ 32 ∧ v7 = .int .i64 ((i : Nat) : Int) ∧ v3 = .slice p (2 * i) cp ∧ Buf 5 .u8 w wr [(r, u8s hs, 25)] v3 (hexs (hs.take i))) (fun _ v7 _ => (32 - intOf v7).toNat)
  case atStart => exact ⟨0, none, 0, by omega, rfl, rfl, B⟩
  case round =>
    clear B
    obtain ⟨i, p, cp, hi, rfl, rfl, B⟩ := hrel
    by_cases hi2 : i < 32
    · have hx := hb'.out i (by rw [hl'.out]; exact hi2)
      have hstep := Lib.hid (hexs_step (hs := hs) (i := i) (by rw [hl'.out]; exact hi2))
      have hlen : Hid ((hexs (hs.take i)).length = 2 * i) := by show _ = _; rw [length_hexs, List.length_take, hl'.out]; omega
      obtain ⟨x, hxe⟩ : ∃ x, x = hs[i]?.getD 0 := ⟨_, rfl⟩
      have hload : Hid (∀ (o : Oper) (a : Act) (w' : World), o.op = .load 5 (.tmp 11) ∨ o.op = .load 5 (.tmp 16) → (∀ y, o.op = .load 5 y → a.eval y = .pointer (some ⟨r, i, none⟩)) → Own wr w' [] → (execOp a.eval o).run Try.prog w' = .ok (.value (.int .u8 x)) w') := by
        intro o a w' ho hp hw
        have h1 := (B.call0 hw).own0
        rcases ho with ho | ho
        · have := rn_loadI (P := Try.prog) (d := .int .u8) h1 ho (hp _ ho) (.head _) rfl rfl (by rw [hl'.out]; exact hi2); rw [this, hxe]
        · have := rn_loadI (P := Try.prog) (d := .int .u8) h1 ho (hp _ ho) (.head _) rfl rfl (by rw [hl'.out]; exact hi2); rw [this, hxe]
      rw [← hxe] at hx hstep
      clear hxe
      go_wp2_with fail
      have hq0 : 0 ≤ x / 16 := by omega
      have hq1 : x / 16 < 16 := by omega
      have hr0 : 0 ≤ x % 16 := by omega
      have hr1 : x % 16 < 16 := by omega
      have hq := Lib.hid (hexTab_at hq0 hq1)
      have hr := Lib.hid (hexTab_at hr0 hr1)
      refine region_grow 12 (by kernel_rfl) (by kernel_rfl) (by kernel_rfl) [.val (.slice p (2 * i) cp), .val (.int .i64 i), .val (.pointer (some ⟨r, i, none⟩)), .val (.int .u8 x), .val (.int .u8 (x / 16)), .val (.int .u8 (hexD (x / 16))), .val (.int .i64 i), .val (.pointer (some ⟨r, i, none⟩)), .val (.int .u8 x), .val (.int .u8 (x % 16)), .val (.int .u8 (hexD (x % 16))), .rel (SlIs 2 (u8s [hexD (x / 16), hexD (x % 16)]))] rfl ?_
      repeat (first
        | (refine sp_run rfl (fun w' hw' hF => rn_idxStr (s := hexTab) rfl rfl rfl rfl hq0 hq.out) ?_; go_frame)
        | (refine sp_run rfl (fun w' hw' hF => rn_idxStr (s := hexTab) rfl rfl rfl rfl hr0 hr.out) ?_; go_frame)
        | (refine sp_run rfl (fun w' hw' hF => hload.out _ _ w' (by first | exact Or.inl rfl | exact Or.inr rfl) (fun y hy => by cases hy; rfl) hw') ?_; go_frame)
        | (refine sp_lit (el := 5) rfl rfl rfl (fun w' => by kernel_rfl) ?_; intro v17; go_frame)
        | (refine sp_val (fun w' hw' hF => ?_) ⟨_, rfl, Nat.le_of_ble_eq_true rfl⟩ ?_
           · go_big_quiet_step (fail)
             exact rfl
           go_frame))

      refine sp_nil ?_
      intro w' hw' hF
      obtain ⟨⟨p7, c7, rfl⟩, h7⟩ := hF.2 _ rfl trivial
      have B' := B.call0 hw'
      have h7' := Lib.hid h7
      clear B hw' hF hq hr hq0 hq1 hr0 h7
      simp only [List.drop_succ_cons, List.drop_zero]
      go_wp2_with (refine st_app (ys := [hexD (x / 16), hexD (x % 16)]) rfl B' elem_u8 rfl rfl rfl rfl h7'.out (by rw [hlen.out]; simp; omega) (by rw [hlen.out]; simp; omega) ?_; clear B'; intro p6 c6 w6 B; rw [hlen.out, ← hstep.out] at B; rw [hlen.out])
      exact ⟨⟨i + 1, _, _, by omega, by go_num, rfl, B⟩, by simp [intOf]; omega⟩
    · obtain rfl : i = 32 := by omega
      have he : Hid (hs.take 32 = hs) := List.take_of_length_le (by rw [hl'.out]; omega)
      rw [he.out] at B
      have hcv : (convert 22 9 (.slice p 64 cp)).run Try.prog wr = .ok (.string (strOfNums (hexs hs))) wr := run_toStr (e := 5) rfl rfl rfl B.bytesAt
      go_wp2_with (fail)
      have H := Lib.hid (B.own0.end0 (by simp; omega))
      go_ret
      exact ⟨rfl, H.out⟩

end Go.Proofs.Ytilglaacegjdoaa
