/- pack.Reader: what it does once it is wrong, or where too few bytes are left. And what stands on it. No condition. -/
import Derived.Test.YtfihlmnbonnekaaGreatPrgB
import Derived.Test.YtfihlmnbonnekaaGreatPrgA
import Derived.Tactics
import Derived.Tactics2
import Derived.Defers
import Derived.Laws.Pointers
import Derived.Laws.LoneSync
import Derived.RegionTactic
import Derived.RegionCalls

/-! pack.Reader: what it does once it is wrong, or where too few bytes are left. -/
namespace Go.Proofs.YtfihlmnbonnekaaGreat
open Go.RowKit
set_option maxHeartbeats 32000000
theorem Own.next {w0 w w' : World} {L L' M : List Ent} (H : Own w0 w (L ++ M)) (h : Own w w' L') (hk : L'.map (·.1) = L.map (·.1)) : Own w0 w' (L' ++ M) :=
 H.call ⟨h, fun k hk' => Or.inl (by rw [← hk]; exact hk')⟩ (fun k hk' => Or.inl (by rw [hk]; exact hk'))
set_option maxRecDepth 100000 in
theorem right_bad (w : World) (r n c m : Nat) (p : Option Addr) (wr : Bool) (H0 : Own w w [(r, [.slice p n c, .bool wr], 130)]) (hm : wr = true ∨ n < m) :
 Calls Tryz.prog 80 #[.pointer (some ⟨r, 0, none⟩), .int .i64 m] w fun e w' => e = .returned (.bool false) ∧ Own w w' [(r, [.slice p n c, .bool true], 130)] := by
 have H := H0
 have h0 : w.cell? ⟨r, 0, none⟩ = some (.slice p n c) := H.cell (.head _) 0
 have h1 : w.cell? ⟨r, 1, none⟩ = some (.bool wr) := H.cell (.head _) 1
 clear H0
 cases wr with
 | true =>
   clear hm
   go_enter Tryz.func80, Tryz.ntmps80
   go_wp2_with (first
    | (refine st_skip rfl (rn_store (v := .bool true) H rfl rfl rfl (by kernel_rfl) .head (by simp) rfl) ?_; clear H; intro w1 H)
    | (refine st_val rfl (rn_load (i := 1) H rfl rfl (.head _) rfl rfl rfl) ?_))
   have h2 := Hh H
   go_ret
   exact ⟨rfl, h2.out⟩
 | false =>
   have hd : Hid ((decide ((m : Int) < 0) || decide (n < m)) = true) := by
    show _ = _
    rcases hm with hm | hm
    · cases hm
    · rw [decide_eq_true hm, Bool.or_true]
   clear hm
   go_enter Tryz.func80, Tryz.ntmps80
   go_wp2_with (first
    | (refine st_skip rfl (rn_store (v := .bool (decide ((m : Int) < 0) || decide (n < m))) H rfl rfl rfl (by kernel_rfl) .head (by simp) rfl) ?_; clear H; intro w1 H; rw [hd.out] at H)
    | (refine st_val rfl (rn_load (i := 1) H rfl rfl (.head _) rfl rfl rfl) ?_))
   have h2 := Hh H
   go_ret
   exact ⟨rfl, h2.out⟩
theorem rnum4_bad (w : World) (r n c : Nat) (p : Option Addr) (wr : Bool) (H0 : Own w w [(r, [.slice p n c, .bool wr], 130)]) (hm : wr = true ∨ n < 4) :
 Calls Tryz.prog 49 #[.pointer (some ⟨r, 0, none⟩), .int .i64 4] w fun e w' => e = .returned (.int .u64 0) ∧ Own w w' [(r, [.slice p n c, .bool true], 130)] := by
 have hri := Hh (right_bad w r n c 4 p wr H0 hm)
 clear H0 hm
 go_enter Tryz.func49, Tryz.ntmps49
 go_wp2_with (go_at_call 80; refine hri.out.mono ?_; rintro e w1 ⟨rfl, H⟩)
 go_ret
 exact ⟨rfl, H⟩
theorem rraw_bad (w : World) (r n c m : Nat) (p : Option Addr) (wr : Bool) (H0 : Own w w [(r, [.slice p n c, .bool wr], 130)]) (hm : wr = true ∨ n < m) :
 Calls Tryz.prog 50 #[.pointer (some ⟨r, 0, none⟩), .int .i64 m] w fun e w' => e = .returned (.slice none 0 0) ∧ Own w w' [(r, [.slice p n c, .bool true], 130)] := by
 have hri := Hh (right_bad w r n c m p wr H0 hm)
 clear H0 hm
 go_enter Tryz.func50, Tryz.ntmps50
 go_wp2_with (go_at_call 80; refine hri.out.mono ?_; rintro e w1 ⟨rfl, H⟩)
 go_ret
 exact ⟨rfl, H⟩
def RdAt (w : World) (r : Nat) (B : Nat → Prop) (xs : List Int) (wr : Bool) (cs : List Value) : Prop := ∃ p c, cs = [.slice p xs.length c, .bool wr] ∧ BytesAt w (.slice p xs.length c) xs ∧ ∀ k, blk (Value.slice p xs.length c) = some k → k ≠ r ∧ B k ∧ k < w.heap.size
theorem RdAt.mv {w w' : World} {r : Nat} {B : Nat → Prop} {xs : List Int} {wr : Bool} {cs : List Value} (h : RdAt w r B xs wr cs) (ho : Own w w' []) : RdAt w' r B xs wr cs := by
 obtain ⟨p, c, h1, h2, h3⟩ := h
 exact ⟨p, c, h1, SlAt.own0 h2 ho, fun k hk => ⟨(h3 k hk).1, (h3 k hk).2.1, Nat.lt_of_lt_of_le (h3 k hk).2.2 ho.size⟩⟩
theorem RdAt.of {w : World} {r : Nat} {B B' : Nat → Prop} {xs : List Int} {wr : Bool} {cs : List Value} (h : RdAt w r B xs wr cs) (hB : ∀ k, k < w.heap.size → B k → B' k) : RdAt w r B' xs wr cs := by
 obtain ⟨p, c, h1, h2, h3⟩ := h
 exact ⟨p, c, h1, h2, fun k hk => ⟨(h3 k hk).1, hB k (h3 k hk).2.2 (h3 k hk).2.1, (h3 k hk).2.2⟩⟩
theorem RdAt.mvG {w w' : World} {r g : Nat} {B : Nat → Prop} {xs : List Int} {wr : Bool} {cs : List Value} {cg : List Value} {T : TypeId} (h : RdAt w r B xs wr cs) (ho : Own w w' [(g, cg, T)]) (hg : ∀ k, B k → k ≠ g) : RdAt w' r B xs wr cs := by
 obtain ⟨p, c, h1, h2, h3⟩ := h
 exact ⟨p, c, h1, SlAt.own h2 ho (fun k hk hm => by simp at hm; exact hg k (h3 k hk).2.1 hm), fun k hk => ⟨(h3 k hk).1, (h3 k hk).2.1, Nat.lt_of_lt_of_le (h3 k hk).2.2 ho.size⟩⟩
theorem RdAt.mvN {w w' : World} {r : Nat} {B : Nat → Prop} {xs : List Int} {wr : Bool} {cs : List Value} {L : List Ent} (h : RdAt w r B xs wr cs) (ho : Own w w' L) (hn : ∀ k ∈ L.map (·.1), w.heap.size ≤ k) : RdAt w' r B xs wr cs := by
 obtain ⟨p, c, h1, h2, h3⟩ := h
 exact ⟨p, c, h1, SlAt.own h2 ho (fun k hk hm => by have := hn k hm; have := (h3 k hk).2.2; omega), fun k hk => ⟨(h3 k hk).1, (h3 k hk).2.1, Nat.lt_of_lt_of_le (h3 k hk).2.2 ho.size⟩⟩
def num4V (xs : List Int) (wr : Bool) : Int := if wr = true ∨ xs.length < 4 then 0 else beN xs 4
def num4X (xs : List Int) (wr : Bool) : List Int := if wr = true ∨ xs.length < 4 then xs else xs.drop 4
def num4W (xs : List Int) (wr : Bool) : Bool := if wr = true ∨ xs.length < 4 then true else false
theorem rdNum_any (w0 w : World) (r : Nat) (B : Nat → Prop) (xs : List Int) (wr : Bool) (cs : List Value) (L : List Ent) (H : Own w0 w ((r, cs, 130) :: L)) (hR : RdAt w r B xs wr cs) (hb : IsBytes xs) (hl : xs.length ≤ 1000000) :
 Calls Tryz.prog 49 #[.pointer (some ⟨r, 0, none⟩), .int .i64 4] w fun e w' => e = .returned (.int .u64 (num4V xs wr)) ∧ ∃ cs', RdAt w' r B (num4X xs wr) (num4W xs wr) cs' ∧ Own w0 w' ((r, cs', 130) :: L) := by
 obtain ⟨p, c, rfl, h2, h3⟩ := hR
 unfold num4V num4X num4W
 by_cases h : wr = true ∨ xs.length < 4
 · rw [if_pos h, if_pos h, if_pos h]
   refine (rnum4_bad w r _ c p wr (H.sub1 (.head _)) h).mono ?_
   rintro e w' ⟨h4, h5⟩
   refine ⟨h4, _, ⟨p, c, rfl, SlAt.own h2 h5 (fun k hk hm => by simp at hm; exact (h3 k hk).1 hm), fun k hk => ⟨(h3 k hk).1, (h3 k hk).2.1, Nat.lt_of_lt_of_le (h3 k hk).2.2 h5.size⟩⟩, Own.next (L := [_]) H h5 rfl⟩
 · rw [if_neg h, if_neg h, if_neg h]
   obtain ⟨hw, h4⟩ := not_or.1 h
   have hwr : wr = false := by cases wr <;> simp_all
   subst hwr
   refine (rnum4_any w r _ c p xs (H.sub1 (.head _)) h2 rfl (by omega) hl hb (fun k hk => (h3 k hk).1)).mono ?_
   rintro e w' ⟨h5, p', c', h6, h7, h8⟩
   have e1 : xs.length - 4 = (xs.drop 4).length := by rw [List.length_drop]
   rw [e1] at h6 h7 h8
   exact ⟨h5, _, ⟨p', c', rfl, h7, fun k hk => ⟨(h3 k (h8 k hk)).1, (h3 k (h8 k hk)).2.1, Nat.lt_of_lt_of_le (h3 k (h8 k hk)).2.2 h6.size⟩⟩, Own.next (L := [_]) H h6 rfl⟩
theorem num4V_range {xs : List Int} (h : IsBytes xs) (b : Bool) : 0 ≤ num4V xs b ∧ num4V xs b < 4294967296 := by
 unfold num4V
 split
 · omega
 · have := beN_range h 4 (by omega)
   omega
theorem rdNumOk (w0 w : World) (r : Nat) (B : Nat → Prop) (xs : List Int) (cs : List Value) (L : List Ent) (H : Own w0 w ((r, cs, 130) :: L)) (hR : RdAt w r B xs false cs) (hb : IsBytes xs) (hl : xs.length ≤ 1000000) (h4 : 4 ≤ xs.length) :
 Calls Tryz.prog 49 #[.pointer (some ⟨r, 0, none⟩), .int .i64 4] w fun e w' => e = .returned (.int .u64 (beN xs 4)) ∧ ∃ cs', (RdAt w' r B (xs.drop 4) false cs' ∧ Own w w' [(r, cs', 130)]) ∧ Own w0 w' ((r, cs', 130) :: L) := by
 obtain ⟨p, c, rfl, h2, h3⟩ := hR
 refine (rnum4_any w r _ c p xs (H.sub1 (.head _)) h2 rfl h4 hl hb (fun k hk => (h3 k hk).1)).mono ?_
 rintro e w' ⟨h5, p', c', h6, h7, h8⟩
 have e1 : xs.length - 4 = (xs.drop 4).length := by rw [List.length_drop]
 rw [e1] at h6 h7 h8
 exact ⟨h5, _, ⟨⟨p', c', rfl, h7, fun k hk => ⟨(h3 k (h8 k hk)).1, (h3 k (h8 k hk)).2.1, Nat.lt_of_lt_of_le (h3 k (h8 k hk)).2.2 h6.size⟩⟩, h6⟩, Own.next (L := [_]) H h6 rfl⟩
def NewS (B : Nat) (v : Value) : Prop := ∀ k, blk v = some k → B ≤ k
theorem Old.mvR {w w' : World} {v : Value} {xs : List Int} {r : Nat} {cs : List Value} {T : TypeId} (h : Old w v xs) (hn : NewS (r + 1) v) (ho : Own w w' [(r, cs, T)]) : Old w' v xs :=
 ⟨SlAt.own h.1 ho (fun k hk hm => by simp at hm; have := hn k hk; omega), fun k hk => Nat.lt_of_lt_of_le (h.2 k hk) ho.size⟩
theorem rdRawOk (w0 w : World) (r m : Nat) (B : Nat → Prop) (xs : List Int) (cs : List Value) (L : List Ent) (H : Own w0 w ((r, cs, 130) :: L)) (hR : RdAt w r B xs false cs) (hl : xs.length ≤ 1000000) (hm : m ≤ xs.length) :
 Calls Tryz.prog 50 #[.pointer (some ⟨r, 0, none⟩), .int .i64 m] w fun e w' => ∃ p c cs', e = .returned (.slice p m c) ∧ Old w' (.slice p m c) (xs.take m) ∧ NewS (r + 1) (.slice p m c) ∧ NewS w.heap.size (.slice p m c) ∧ RdAt w' r B (xs.drop m) false cs' ∧ Own w0 w' ((r, cs', 130) :: L) := by
 obtain ⟨p, c, rfl, h2, h3⟩ := hR
 refine (rraw_any w r _ c m p xs (H.sub1 (.head _)) h2 rfl hm hl (fun k hk => (h3 k hk).1)).mono ?_
 rintro e w' ⟨v, p', c', rfl, hB, h6, h7⟩
 have hs := hB.slice
 obtain ⟨pv, cv, e1⟩ := hs
 subst e1
 have e2 : (xs.take m).length = m := by rw [List.length_take]; omega
 have e3 : xs.length - m = (xs.drop m).length := by rw [List.length_drop]
 have ho := hB.own0
 have hrl := H.lt (.head _)
 have hnw : NewS w.heap.size (.slice pv (xs.take m).length cv) := hB.new
 have hod : Old w' (.slice pv (xs.take m).length cv) (xs.take m) := ⟨hB.bytesAt, hB.lt⟩
 rw [e3] at h6 h7 ho
 rw [e2] at hnw hod
 exact ⟨pv, cv, _, by rw [e2], hod, fun k hk => by have := hnw k hk; omega, hnw, ⟨p', c', rfl, h6, fun k hk => ⟨(h3 k (h7 k hk)).1, (h3 k (h7 k hk)).2.1, Nat.lt_of_lt_of_le (h3 k (h7 k hk)).2.2 ho.size⟩⟩, Own.next (L := [_]) H ho rfl⟩
theorem rdRawTot (w0 w : World) (r m : Nat) (B : Nat → Prop) (xs : List Int) (wr : Bool) (cs : List Value) (L : List Ent) (H : Own w0 w ((r, cs, 130) :: L)) (hR : RdAt w r B xs wr cs) (hl : xs.length ≤ 1000000) :
 Calls Tryz.prog 50 #[.pointer (some ⟨r, 0, none⟩), .int .i64 m] w fun e w' => ∃ v cs', e = .returned v ∧ Own w0 w' ((r, cs', 130) :: L) := by
 by_cases h : wr = true ∨ xs.length < m
 · obtain ⟨p, c, rfl, h2, h3⟩ := hR
   exact (rraw_bad w r _ c m p wr (H.sub1 (.head _)) h).mono fun _ _ ⟨h4, h5⟩ => ⟨_, _, h4, Own.next (L := [_]) H h5 rfl⟩
 · obtain ⟨hw, h4⟩ := not_or.1 h
   have hwr : wr = false := by cases wr <;> simp_all
   subst hwr
   exact (rdRawOk w0 w r m B xs cs L H hR hl (by omega)).mono fun _ _ ⟨p, c, cs', h5, _, _, _, _, h6⟩ => ⟨_, cs', h5, h6⟩
end Go.Proofs.YtfihlmnbonnekaaGreat

/-! sync.Once and atomic.Int64, by one goroutine: done once, then never again. No condition but what stands in each. -/
namespace Go.Proofs.YtfihlmnbonnekaaGreat
open Go.RowKit
set_option maxHeartbeats 32000000
theorem Own.setC {w0 w : World} {L L' : List Ent} (H : Own w0 w L) {b i : Nat} {cs : List Value} {T : TypeId} {v : Value} (hm : At L b cs T (cs.set i v) L') : Own w0 (w.setCell ⟨b, i, none⟩ v) L' := by
 rw [setCell_eq_setRow w b i cs.toArray T (0, 0) v (H.here _ _ _ hm.mem), show cs.toArray.setIfInBounds i v = (cs.set i v).toArray by simp]
 exact H.set hm
theorem Own.fz {w0 w : World} {L : List Ent} (H : Own w0 w L) {b : Nat} {cs : List Value} {T : TypeId} (hm : (b, cs, T) ∈ L) (i : Nat) : w.frozen? ⟨b, i, none⟩ = false := by
 unfold World.frozen?
 rw [H.here _ _ _ hm]
 simp
theorem race_off (w : World) : (callFunc 114 #[]).run Tryz.prog w = .ok (.value (.tuple #[])) w := run_call_mark0 Tryz.func114 (by kernel_rfl) (by kernel_rfl) (by kernel_rfl) .disable (by kernel_rfl) w
theorem race_on (w : World) : (callFunc 116 #[]).run Tryz.prog w = .ok (.value (.tuple #[])) w := run_call_mark0 Tryz.func116 (by kernel_rfl) (by kernel_rfl) (by kernel_rfl) .enable (by kernel_rfl) w
theorem race_acq (a : Addr) (w : World) : (callFunc 117 #[.pointer (some a)]).run Tryz.prog w = .ok (.value (.tuple #[])) w := run_call_marked Tryz.func117 (by kernel_rfl) (by kernel_rfl) (by kernel_rfl) .acquire (by kernel_rfl) a w
theorem race_rel (a : Addr) (w : World) : (callFunc 119 #[.pointer (some a)]).run Tryz.prog w = .ok (.value (.tuple #[])) w := run_call_marked Tryz.func119 (by kernel_rfl) (by kernel_rfl) (by kernel_rfl) .releaseMerge (by kernel_rfl) a w
section
variable {P : Program} {rest : List Oper} {o : Oper} {a : Act} {w : World}
theorem rn_unsafe {src dst t : TypeId} {x : Operand} (ho : o.op = .convert src dst x) {ad : Addr} (hx : a.eval x = .pointer (some ad)) (hs : P.underlying src = some (.pointer t)) (hd : P.underlying dst = some .unsafePointer) (hsz : (P.info? t).map (fun i => decide (i.size = 0)) = some false) {v : Value} (hc : w.cell? ad = some v) :
 (execOp a.eval o).run P w = .ok (.value (.pointer (some ad))) w := by
 unfold execOp
 simp only [ho, hx, Sem.run_bind, run_convert_to_unsafe hs hd hsz hc, Result.andThen_ok]
 rfl
end
theorem bload_any (w : World) (a : Addr) (x : Int) (z : Bool) (hz : (x != 0) = z) (hc : w.cell? a = some (.int .u32 x)) : Calls Tryz.prog 88 #[.pointer (some a)] w fun e w' => e = .returned (.bool z) ∧ w' = w := by
 subst hz
 have hl := run_call_load (P := Tryz.prog) Tryz.func101 (by kernel_rfl) (by kernel_rfl) (by kernel_rfl) .u32 (by kernel_rfl) hc
 go_enter Tryz.func88, Tryz.ntmps88
 go_wp2
 go_ret
 exact ⟨rfl, rfl⟩
theorem bstore_deferred (a : Addr) (x : Value) (u : FrameMode) (w : World) (hc : w.cell? a = some x) (hz : w.frozen? a = false) :
 CallsD Tryz.prog 104 #[.pointer (some a), .bool true] u w fun e u' w' => u' = u ∧ (e = .returned (.tuple #[]) ∧ w' = w.drew.setCell a (.int .u32 1)) := by
 have hc' : w.drew.cell? a = some x := by go_simp
 have hz' : w.drew.frozen? a = false := by go_simp
 have hst := run_call_store (P := Tryz.prog) Tryz.func110 (by kernel_rfl) (by kernel_rfl) (by kernel_rfl) (by kernel_rfl) (k := .u32) (y := 1) hc' hz'
 go_enter_d Tryz.func104, Tryz.ntmps104
 go_wp2
 go_region_calls
 all_goals (go_end0; exact ⟨rfl, rfl⟩)
set_option maxRecDepth 100000 in
theorem iunlock_any (a : Addr) (w : World) (hc : w.cell? a = some (.int .i32 1)) (hz : w.frozen? a = false) :
 Calls Tryz.prog 109 #[.pointer (some a)] w fun e w' => e = .returned (.tuple #[]) ∧ w' = w.setCell a (.int .i32 0) := by
 have hd := race_off
 have he := race_on
 have hr := race_rel
 have hadd := run_call_add (P := Tryz.prog) Tryz.func120 (by kernel_rfl) (by kernel_rfl) (by kernel_rfl) .i32 (by kernel_rfl) (y := -1) (s := 0) hc hz (by simp [go_sem]; rfl)
 go_enter Tryz.func109, Tryz.ntmps109
 go_wp2_with (refine st_val rfl (rn_unsafe rfl rfl rfl rfl rfl hc) ?_)
 go_end0
 exact ⟨rfl, rfl⟩
theorem unlock_deferred (a : Addr) (u : FrameMode) (w : World) (hc : w.cell? a = some (.int .i32 1)) (hz : w.frozen? a = false) :
 CallsD Tryz.prog 103 #[.pointer (some a)] u w fun e u' w' => u' = u ∧ (e = .returned (.tuple #[]) ∧ w' = w.setCell a (.int .i32 0)) := by
 go_enter_d Tryz.func103, Tryz.ntmps103
 go_wp2_with (go_at_call 109; refine (iunlock_any a w hc hz).mono ?_; rintro e w' ⟨rfl, rfl⟩)
 go_end0
 exact ⟨rfl, rfl⟩
set_option maxRecDepth 100000 in
theorem ilock_any (a : Addr) (w : World) (hc : w.cell? a = some (.int .i32 0)) (hz : w.frozen? a = false) :
 Calls Tryz.prog 108 #[.pointer (some a)] w fun e w' => e = .returned (.tuple #[]) ∧ w' = w.setCell a (.int .i32 1) := by
 have hd := race_off
 have he := race_on
 have ha := race_acq
 have hcas := run_call_cas_hit (P := Tryz.prog) Tryz.func115 (by kernel_rfl) (by kernel_rfl) (by kernel_rfl) .i32 (by kernel_rfl) (y := 1) hc hz
 have hc' : (w.setCell a (.int .i32 1)).cell? a = some (.int .i32 1) := World.cell?_setCell_same w a _ hc
 go_enter Tryz.func108, Tryz.ntmps108
 go_wp2_with (refine st_val rfl (rn_unsafe rfl rfl rfl rfl rfl hc') ?_)
 refine bodyPost_ret (results_none rfl _ _ _) rfl ?_
 exact ⟨rfl, rfl⟩
theorem lock_free (a : Addr) (w : World) (hc : w.cell? a = some (.int .i32 0)) (hz : w.frozen? a = false) :
 Calls Tryz.prog 102 #[.pointer (some a)] w fun e w' => e = .returned (.tuple #[]) ∧ w' = w.setCell a (.int .i32 1) := by
 go_enter Tryz.func102, Tryz.ntmps102
 go_wp2_with (go_at_call 108; refine (ilock_any a w hc hz).mono ?_; rintro e w' ⟨rfl, rfl⟩)
 go_end0
 exact ⟨rfl, rfl⟩
theorem at2 {A Z : List Value} {off : Nat} (hA : A.length = off) {x y : Value} : (A ++ x :: y :: Z)[off]? = some x ∧ (A ++ x :: y :: Z)[off + 1]? = some y ∧ (∀ v, (A ++ x :: y :: Z).set off v = A ++ v :: y :: Z) ∧ (∀ v, (A ++ x :: y :: Z).set (off + 1) v = A ++ x :: v :: Z) := by
 subst hA
 refine ⟨by simp, by simp, fun v => ?_, fun v => ?_⟩
 · rw [List.set_append_right _ _ (Nat.le_refl _), Nat.sub_self]; rfl
 · rw [List.set_append_right _ _ (by omega), show A.length + 1 - A.length = 1 by omega]; rfl
set_option maxRecDepth 100000 in
theorem slow_any {w0 w : World} {b off : Nat} {A Z A' Z' : List Value} {T : TypeId} {L L' : List Ent} (hA : A.length = off) (hA' : A'.length = off) (f : Nat) (fn : Func) (cap : Array Value) (hf : Tryz.prog.funcs[f]? = some fn) (hname : (fn.name == "runtime.NumGoroutine") = false) (hbd : fn.body.isNone = false)
 (H : Own w0 w ((b, A ++ .int .u32 0 :: .int .i32 0 :: Z, T) :: L))
 (hcl : ∀ w1, Own w0 w1 ((b, A ++ .int .u32 0 :: .int .i32 1 :: Z, T) :: L) → Calls Tryz.prog f cap w1 fun e w2 => e = .returned (.tuple #[]) ∧ Own w0 w2 ((b, A' ++ .int .u32 0 :: .int .i32 1 :: Z', T) :: L')) :
 Calls Tryz.prog 89 #[.pointer (some ⟨b, off, none⟩), .func (.func f) #[] cap] w fun e w' => e = .returned (.tuple #[]) ∧ Own w0 w' ((b, A' ++ .int .u32 1 :: .int .i32 0 :: Z', T) :: L') := by
 have c1 := Hh ((H.cell (.head _) (off + 1)).trans (at2 hA).2.1)
 have z1 := Hh (H.fz (.head _) (off + 1))
 have hnot : ∀ (x : Bool) (w : World), (Op.unary .not (.bool x)).run Tryz.prog w = .ok (.bool (!x)) w := fun _ _ => rfl
 have H1 : Hid (Own w0 (w.setCell ⟨b, off + 1, none⟩ (.int .i32 1)) ((b, A ++ .int .u32 0 :: .int .i32 1 :: Z, T) :: L)) := by
  have h := H.setC (i := off + 1) (v := .int .i32 1) (L' := (b, A ++ .int .u32 0 :: .int .i32 1 :: Z, T) :: L) (by rw [(at2 hA).2.2.2]; exact .head)
  exact h
 have hA1 := Hh hA
 have hA2 := Hh hA'
 have hcl' := Hh hcl
 have hf' := Hh hf
 have hname' := Hh hname
 have hbd' := Hh hbd
 clear H hA hA' hcl hf hname hbd
 go_enter_defers Tryz.func89, Tryz.ntmps89
 have z1 := tt
 go_wp2_with (first
  | (clear z1; go_at_call 102; refine (lock_free ⟨b, off + 1, none⟩ _ c1.out z1.out).mono ?_; rintro e w1 ⟨rfl, e1⟩; rw [← e1] at H1; clear e1 c1 z1; have z2 := tt)
  | (clear z2; go_at_call 88; refine (bload_any _ ⟨b, off, none⟩ 0 false rfl ((H1.out.cell (.head _) off).trans (at2 hA1.out).1)).mono ?_; rintro e w2 ⟨rfl, e2⟩; subst e2; have z3 := tt)
  | (clear z3; refine st_callC (P := Tryz.prog) (R := fun v w2 => v = .tuple #[] ∧ Own w0 w2 ((b, A' ++ .int .u32 0 :: .int .i32 1 :: Z', T) :: L')) (f := f) (cap := cap) (args := cap) (xs := #[]) (ats := #[]) rfl rfl rfl (by simp) hf'.out hname'.out hbd'.out ((hcl'.out _ H1.out).mono fun e w2 h => ⟨_, h.1, rfl, h.2⟩) ?_; intro v20 w3 hr; obtain ⟨e20, H2⟩ := hr; subst e20))
 refine leaves_cons (f := 104) (args := #[.pointer (some ⟨b, off, none⟩), .bool true]) (by simp) (by simp [go_sem]) ?_
 refine (bstore_deferred ⟨b, off, none⟩ (.int .u32 0) .returning _ ((H2.cell (.head _) off).trans (at2 hA2.out).1) (H2.fz (.head _) off)).mono ?_
 rintro e u' w4 ⟨rfl, rfl, e4⟩
 have H4 : Own w0 w4 ((b, A' ++ .int .u32 1 :: .int .i32 1 :: Z', T) :: L') := by
  rw [e4]
  exact H2.drew.setC (by rw [(at2 hA2.out).2.2.1]; exact .head)
 clear e4
 refine leaves_cons (f := 103) (args := #[.pointer (some ⟨b, off + 1, none⟩)]) (by simp [settle]) (by simp [go_sem]) ?_
 refine (unlock_deferred ⟨b, off + 1, none⟩ _ _ ((H4.cell (.head _) (off + 1)).trans (at2 hA2.out).2.1) (H4.fz (.head _) (off + 1))).mono ?_
 rintro e u' w5 ⟨rfl, rfl, e5⟩
 have H5 : Own w0 w5 ((b, A' ++ .int .u32 1 :: .int .i32 0 :: Z', T) :: L') := by
  rw [e5]
  exact H4.setC (by rw [(at2 hA2.out).2.2.2]; exact .head)
 simp [Leaves, settle, results, Tryz.results89]
 exact H5
set_option maxRecDepth 100000 in
theorem once_first {w0 w : World} {b off : Nat} {A Z A' Z' : List Value} {T : TypeId} {L L' : List Ent} (hA : A.length = off) (hA' : A'.length = off) (f : Nat) (fn : Func) (cap : Array Value) (hf : Tryz.prog.funcs[f]? = some fn) (hname : (fn.name == "runtime.NumGoroutine") = false) (hbd : fn.body.isNone = false)
 (H : Own w0 w ((b, A ++ .int .u32 0 :: .int .i32 0 :: Z, T) :: L))
 (hcl : ∀ w1, Own w0 w1 ((b, A ++ .int .u32 0 :: .int .i32 1 :: Z, T) :: L) → Calls Tryz.prog f cap w1 fun e w2 => e = .returned (.tuple #[]) ∧ Own w0 w2 ((b, A' ++ .int .u32 0 :: .int .i32 1 :: Z', T) :: L')) :
 Calls Tryz.prog 67 #[.pointer (some ⟨b, off, none⟩), .func (.func f) #[] cap] w fun e w' => e = .returned (.tuple #[]) ∧ Own w0 w' ((b, A' ++ .int .u32 1 :: .int .i32 0 :: Z', T) :: L') := by
 have c0 := Hh ((H.cell (.head _) off).trans (at2 hA).1)
 have hs := Hh (slow_any hA hA' f fn cap hf hname hbd H hcl)
 have hnot : ∀ (x : Bool) (w : World), (Op.unary .not (.bool x)).run Tryz.prog w = .ok (.bool (!x)) w := fun _ _ => rfl
 clear hA hA' hf hname hbd hcl H
 go_enter Tryz.func67, Tryz.ntmps67
 go_wp2_with (first
  | (go_at_call 88; refine (bload_any _ ⟨b, off, none⟩ 0 false rfl c0.out).mono ?_; rintro e w2 ⟨rfl, e2⟩; subst e2)
  | (go_at_call 89; refine hs.out.mono ?_; rintro e w2 ⟨rfl, H2⟩))
 go_end0
 exact ⟨rfl, H2⟩
theorem once_done (w : World) (b off : Nat) (fv : Value) (hc : w.cell? ⟨b, off, none⟩ = some (.int .u32 1)) :
 Calls Tryz.prog 67 #[.pointer (some ⟨b, off, none⟩), fv] w fun e w' => e = .returned (.tuple #[]) ∧ w' = w := by
 have hnot : ∀ (x : Bool) (w : World), (Op.unary .not (.bool x)).run Tryz.prog w = .ok (.bool (!x)) w := fun _ _ => rfl
 go_enter Tryz.func67, Tryz.ntmps67
 go_wp2_with (go_at_call 88; refine (bload_any _ ⟨b, off, none⟩ 1 true rfl hc).mono ?_; rintro e w2 ⟨rfl, e2⟩; subst e2)
 go_end0
 exact ⟨rfl, rfl⟩
theorem iadd_any {w0 w : World} {L L' : List Ent} {b i : Nat} {cs : List Value} {T : TypeId} (n m : Int) (H : Own w0 w L) (hv : cs[i]? = some (.int .i64 n)) (hs : wrap64 (n + m) = n + m) (hm : At L b cs T (cs.set i (.int .i64 (n + m))) L') :
 Calls Tryz.prog 70 #[.pointer (some ⟨b, i, none⟩), .int .i64 m] w fun e w' => e = .returned (.int .i64 (n + m)) ∧ Own w0 w' L' := by
 have hc : w.cell? ⟨b, i, none⟩ = some (.int .i64 n) := (H.cell hm.mem i).trans hv
 have hadd := run_call_add (P := Tryz.prog) Tryz.func91 (by kernel_rfl) (by kernel_rfl) (by kernel_rfl) .i64 (by kernel_rfl) (y := m) (s := n + m) hc (H.fz hm.mem i) (by simp [go_sem]; rw [IntKind.wrap_i64]; unfold wrap64 at hs; exact hs)
 have H2 := Hh (H.setC hm)
 clear H hm hv hs hc
 go_enter Tryz.func70, Tryz.ntmps70
 go_wp2
 go_ret
 exact ⟨rfl, H2.out⟩
end Go.Proofs.YtfihlmnbonnekaaGreat
