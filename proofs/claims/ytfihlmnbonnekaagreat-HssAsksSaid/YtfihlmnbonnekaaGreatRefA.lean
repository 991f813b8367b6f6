/- The reference's block: its text computes 'comp' (the first three loops). Printed by a program of this work (wip/gen/refblk.py). And what stands on it. No condition. -/
import Derived.Test.YtfihlmnbonnekaaGreatShaA
namespace Go.Proofs.YtfihlmnbonnekaaGreat
open Go.RowKit
set_option maxHeartbeats 32000000
noncomputable def refCode (p : List Nat) : Code := codeAt (Tryz.f87.body.getD .skip) p
theorem or32_comm (a b : Int) : bits .or .u32 a b = bits .or .u32 b a := by
 show IntKind.u32.wrap _ = IntKind.u32.wrap _
 rw [BitVec.or_comm]
set_option maxRecDepth 100000 in
theorem turn_any (x : Int) (n : Nat) (h1 : 1 ≤ n) (h2 : n < 32) (w : World) :
 Calls Tryz.prog 100 #[.int .u32 x, .int .u64 n] w fun e w' => e = .returned (.int .u32 (rotr x n)) ∧ w = w' := by
 have hn : IntKind.u64.wrap (32 - (n : Int)) = ((32 - n : Nat) : Int) := by rw [IntKind.wrap_u64]; omega
 go_enter Tryz.func100, Tryz.ntmps100
 go_wp2
 go_ret
 refine ⟨?_, rfl⟩
 rw [rotr, or32, or32_comm]
 rfl
theorem turnk (x k : Int) (h1 : 1 ≤ k) (h2 : k < 32) (w : World) : Calls Tryz.prog 100 #[.int .u32 x, .int .u64 k] w fun e w' => e = .returned (.int .u32 (rotr x k.toNat)) ∧ w' = w := by
 obtain ⟨n, rfl⟩ : ∃ n : Nat, k = n := ⟨k.toNat, by omega⟩
 exact (turn_any x n (by omega) (by omega) w).mono fun _ _ h => ⟨h.1, h.2.symm⟩
set_option maxRecDepth 100000 in
theorem ref_words (w0 w : World) (sb so n cap b1 p : Nat) (bk : List Int) (xs : List Int) (L : List Ent) (hxs : xs.length = 64) (hn : p + 64 ≤ n) (hn2 : n ≤ 140737488351232)
 (H : Own w0 w ((b1, u32s xs, 152) :: L))
 (hsrc : ∀ w' xs', Own w0 w' ((b1, u32s xs', 152) :: L) → ∀ i, i < n → w'.cell? ⟨sb, so + i, none⟩ = some (.int .u8 (bk[i]?.getD 0)))
 (Q : Exit → Act → World → Prop) (c : Code) (hc : refCode [1, 1, 1, 0, 1, 0] = c) {s0 s3 s4 s5 s6 s7 s10 s11 s12 s13 s14 s15 s16 s17 s18 s19 s20 s21 s22 s23 s24 s25 s26 s27 s28 s29 s30 s31 s32 s33 s34 s35 s36 s37 s38 s39 s40 s41 s42 s43 s44 s45 s46 s47 s48 s49 s50 s51 s52 s53 s54 s55 s56 s57 s58 s59 s60 s61 s62 s63 s64 s65 s66 s67 s68 s69 s70 s71 s72 s73 s74 s75 s76 s77 s78 s79 s80 s81 s82 s83 s84 s85 s86 s87 s88 s89 s90 s91 s92 s93 s94 s95 s96 s97 s98 s99 s100 s101 s102 s103 s104 s105 s106 s107 s108 s109 s110 s111 s112 s113 s114 s115 s116 s117 s118 s119 s120 s121 s122 s123 s124 s125 s126 s127 s128 s129 s130 s131 s132 s133 s134 s135 s136 s137 s138 s139 s140 s141 s142 s143 s144 s145 s146 s147 s148 s149 s150 s151 s152 s153 s154 s155 s156 s157 s158 s159 s160 s161 s162 s163 s164 s165 s166 s167 s168 s169 s170 s171 s172 s173 s174 s175 s176 s177 s178 s179 s180 s181 s182 s183 s184 s185 s186 s187 s188 s189 s190 s191 s192 s193 s194 s195 s196 s197 s198 s199 s200 s201 s202 s203 : Value}
 (hQ : ∀ (t9 t21 t22 t23 t24 t25 t26 t27 t28 t29 t30 t31 t32 t33 t34 t35 t36 t37 t38 t39 t40 t41 t42 t43 t44 t45 t46 t47 t48 t49 t50 t51 t52 t53 t54 t55 t56 t57 t58 t59 t60 t61 t62 t63 t64 t65 t66 t67 : Value) (w' : World) (xs' : List Int), xs'.length = 64 → xs'.take 16 = words bk p 16 → Own w0 w' ((b1, u32s xs', 152) :: L) → Q (.exit 0) ⟨List.toArray (s0 :: .slice (some ⟨sb, so, none⟩) n cap :: .int .i64 p :: s3 :: s4 :: s5 :: s6 :: s7 :: .pointer (some ⟨b1, 0, none⟩) :: t9 :: s10 :: s11 :: s12 :: s13 :: s14 :: s15 :: s16 :: s17 :: s18 :: s19 :: s20 :: t21 :: t22 :: t23 :: t24 :: t25 :: t26 :: t27 :: t28 :: t29 :: t30 :: t31 :: t32 :: t33 :: t34 :: t35 :: t36 :: t37 :: t38 :: t39 :: t40 :: t41 :: t42 :: t43 :: t44 :: t45 :: t46 :: t47 :: t48 :: t49 :: t50 :: t51 :: t52 :: t53 :: t54 :: t55 :: t56 :: t57 :: t58 :: t59 :: t60 :: t61 :: t62 :: t63 :: t64 :: t65 :: t66 :: t67 :: s68 :: s69 :: s70 :: s71 :: s72 :: s73 :: s74 :: s75 :: s76 :: s77 :: s78 :: s79 :: s80 :: s81 :: s82 :: s83 :: s84 :: s85 :: s86 :: s87 :: s88 :: s89 :: s90 :: s91 :: s92 :: s93 :: s94 :: s95 :: s96 :: s97 :: s98 :: s99 :: s100 :: s101 :: s102 :: s103 :: s104 :: s105 :: s106 :: s107 :: s108 :: s109 :: s110 :: s111 :: s112 :: s113 :: s114 :: s115 :: s116 :: s117 :: s118 :: s119 :: s120 :: s121 :: s122 :: s123 :: s124 :: s125 :: s126 :: s127 :: s128 :: s129 :: s130 :: s131 :: s132 :: s133 :: s134 :: s135 :: s136 :: s137 :: s138 :: s139 :: s140 :: s141 :: s142 :: s143 :: s144 :: s145 :: s146 :: s147 :: s148 :: s149 :: s150 :: s151 :: s152 :: s153 :: s154 :: s155 :: s156 :: s157 :: s158 :: s159 :: s160 :: s161 :: s162 :: s163 :: s164 :: s165 :: s166 :: s167 :: s168 :: s169 :: s170 :: s171 :: s172 :: s173 :: s174 :: s175 :: s176 :: s177 :: s178 :: s179 :: s180 :: s181 :: s182 :: s183 :: s184 :: s185 :: s186 :: s187 :: s188 :: s189 :: s190 :: s191 :: s192 :: s193 :: s194 :: s195 :: s196 :: s197 :: s198 :: s199 :: s200 :: s201 :: s202 :: s203 :: []), []⟩ w') :
 Code.wp Tryz.prog c Q ⟨List.toArray (s0 :: .slice (some ⟨sb, so, none⟩) n cap :: .int .i64 p :: s3 :: s4 :: s5 :: s6 :: s7 :: .pointer (some ⟨b1, 0, none⟩) :: .int .i64 0 :: s10 :: s11 :: s12 :: s13 :: s14 :: s15 :: s16 :: s17 :: s18 :: s19 :: s20 :: s21 :: s22 :: s23 :: s24 :: s25 :: s26 :: s27 :: s28 :: s29 :: s30 :: s31 :: s32 :: s33 :: s34 :: s35 :: s36 :: s37 :: s38 :: s39 :: s40 :: s41 :: s42 :: s43 :: s44 :: s45 :: s46 :: s47 :: s48 :: s49 :: s50 :: s51 :: s52 :: s53 :: s54 :: s55 :: s56 :: s57 :: s58 :: s59 :: s60 :: s61 :: s62 :: s63 :: s64 :: s65 :: s66 :: s67 :: s68 :: s69 :: s70 :: s71 :: s72 :: s73 :: s74 :: s75 :: s76 :: s77 :: s78 :: s79 :: s80 :: s81 :: s82 :: s83 :: s84 :: s85 :: s86 :: s87 :: s88 :: s89 :: s90 :: s91 :: s92 :: s93 :: s94 :: s95 :: s96 :: s97 :: s98 :: s99 :: s100 :: s101 :: s102 :: s103 :: s104 :: s105 :: s106 :: s107 :: s108 :: s109 :: s110 :: s111 :: s112 :: s113 :: s114 :: s115 :: s116 :: s117 :: s118 :: s119 :: s120 :: s121 :: s122 :: s123 :: s124 :: s125 :: s126 :: s127 :: s128 :: s129 :: s130 :: s131 :: s132 :: s133 :: s134 :: s135 :: s136 :: s137 :: s138 :: s139 :: s140 :: s141 :: s142 :: s143 :: s144 :: s145 :: s146 :: s147 :: s148 :: s149 :: s150 :: s151 :: s152 :: s153 :: s154 :: s155 :: s156 :: s157 :: s158 :: s159 :: s160 :: s161 :: s162 :: s163 :: s164 :: s165 :: s166 :: s167 :: s168 :: s169 :: s170 :: s171 :: s172 :: s173 :: s174 :: s175 :: s176 :: s177 :: s178 :: s179 :: s180 :: s181 :: s182 :: s183 :: s184 :: s185 :: s186 :: s187 :: s188 :: s189 :: s190 :: s191 :: s192 :: s193 :: s194 :: s195 :: s196 :: s197 :: s198 :: s199 :: s200 :: s201 :: s202 :: s203 :: []), []⟩ w := by
 subst hc
 conv => arg 2; whnf
 go_loopw [9] (fun v9 wr => ∃ i : Nat, i ≤ 16 ∧ v9 = .int .i64 i ∧ ∃ xs : List Int, xs.length = 64 ∧ xs.take i = words bk p i ∧ Own w0 wr ((b1, u32s xs, 152) :: L)) (fun v9 _ => 16 - (intOf v9).toNat)
 case atStart => exact ⟨0, by omega, rfl, xs, hxs, by simp [words], H⟩
 case round =>
  clear H
  obtain ⟨i, hi, rfl, xs, hxs, htk, H⟩ := hrel
  by_cases hlt : i < 16
  · have hc : ∀ m q, q < n → (wr.drewN m).cell? ⟨sb, so + q, none⟩ = some (.int .u8 (bk[q]?.getD 0)) := fun m q hq => hsrc wr xs H q hq
    go_wp2_with fail
    refine region_drew 43 (by kernel_rfl) (by kernel_rfl) (by kernel_rfl) ?_
    simp only [List.take_succ_cons, List.take_zero, List.drop_succ_cons, List.drop_zero]
    repeat (first
     | (refine qd_val rfl (fun m => rn_cell rfl rfl rfl rfl (hc m _ (by omega))) ?_; go_frame)
     | go_big_quiet_step (fail))
    refine wpQuiet_nil ?_
    rintro w' hw'
    have H' := H
    clear H
    have H := (show Own w0 w' _ by obtain ⟨m, rfl⟩ := hw'; exact H'.drewN m)
    clear H' hw'
    go_wp2_with (refine st_skip rfl (rn_storeI H rfl rfl rfl rfl .head (by omega)) ?_; clear H; intro w2 H)
    refine ⟨⟨i + 1, by omega, by go_num, _, by simpa using hxs, ?_, H⟩, by simp [intOf]; omega⟩
    rw [take_set htk (by omega)]
    simp only [words]
    rfl
  · have h16 : i = 16 := by omega
    go_wp2_with fail
    subst h16
    exact hQ _ _ _ _ _ _ _ _ _ _ _ _ _ _ _ _ _ _ _ _ _ _ _ _ _ _ _ _ _ _ _ _ _ _ _ _ _ _ _ _ _ _ _ _ _ _ _ _ _ _ hxs htk H
end Go.Proofs.YtfihlmnbonnekaaGreat
namespace Go.Proofs.YtfihlmnbonnekaaGreat
open Go.RowKit
set_option maxRecDepth 100000 in
theorem ref_sched (w0 w : World) (b1 : Nat) (ms : List Int) (xs : List Int) (L : List Ent) (hxs : xs.length = 64) (h16 : xs.take 16 = ms)
 (H : Own w0 w ((b1, u32s xs, 152) :: L))
 (Q : Exit → Act → World → Prop) (c : Code) (hc : refCode [1, 1, 1, 1, 0, 1, 0] = c) {s0 s1 s2 s3 s4 s5 s6 s7 s9 s11 s12 s13 s14 s15 s16 s17 s18 s19 s20 s21 s22 s23 s24 s25 s26 s27 s28 s29 s30 s31 s32 s33 s34 s35 s36 s37 s38 s39 s40 s41 s42 s43 s44 s45 s46 s47 s48 s49 s50 s51 s52 s53 s54 s55 s56 s57 s58 s59 s60 s61 s62 s63 s64 s65 s66 s67 s68 s69 s70 s71 s72 s73 s74 s75 s76 s77 s78 s79 s80 s81 s82 s83 s84 s85 s86 s87 s88 s89 s90 s91 s92 s93 s94 s95 s96 s97 s98 s99 s100 s101 s102 s103 s104 s105 s106 s107 s108 s109 s110 s111 s112 s113 s114 s115 s116 s117 s118 s119 s120 s121 s122 s123 s124 s125 s126 s127 s128 s129 s130 s131 s132 s133 s134 s135 s136 s137 s138 s139 s140 s141 s142 s143 s144 s145 s146 s147 s148 s149 s150 s151 s152 s153 s154 s155 s156 s157 s158 s159 s160 s161 s162 s163 s164 s165 s166 s167 s168 s169 s170 s171 s172 s173 s174 s175 s176 s177 s178 s179 s180 s181 s182 s183 s184 s185 s186 s187 s188 s189 s190 s191 s192 s193 s194 s195 s196 s197 s198 s199 s200 s201 s202 s203 : Value}
 (hQ : ∀ (t10 t11 t12 t68 t69 t70 t71 t72 t73 t74 t75 t76 t77 t78 t79 t80 t81 t82 t83 t84 t85 t86 t87 t88 t89 t90 t91 t92 t93 t94 t95 t96 t97 t98 t99 t100 t101 t102 t103 t104 t105 t106 t107 t108 : Value) (w' : World), (sched ms 48).length = 64 → Own w0 w' ((b1, u32s (sched ms 48), 152) :: L) → Q (.exit 2) ⟨List.toArray (s0 :: s1 :: s2 :: s3 :: s4 :: s5 :: s6 :: s7 :: .pointer (some ⟨b1, 0, none⟩) :: s9 :: t10 :: t11 :: t12 :: s13 :: s14 :: s15 :: s16 :: s17 :: s18 :: s19 :: s20 :: s21 :: s22 :: s23 :: s24 :: s25 :: s26 :: s27 :: s28 :: s29 :: s30 :: s31 :: s32 :: s33 :: s34 :: s35 :: s36 :: s37 :: s38 :: s39 :: s40 :: s41 :: s42 :: s43 :: s44 :: s45 :: s46 :: s47 :: s48 :: s49 :: s50 :: s51 :: s52 :: s53 :: s54 :: s55 :: s56 :: s57 :: s58 :: s59 :: s60 :: s61 :: s62 :: s63 :: s64 :: s65 :: s66 :: s67 :: t68 :: t69 :: t70 :: t71 :: t72 :: t73 :: t74 :: t75 :: t76 :: t77 :: t78 :: t79 :: t80 :: t81 :: t82 :: t83 :: t84 :: t85 :: t86 :: t87 :: t88 :: t89 :: t90 :: t91 :: t92 :: t93 :: t94 :: t95 :: t96 :: t97 :: t98 :: t99 :: t100 :: t101 :: t102 :: t103 :: t104 :: t105 :: t106 :: t107 :: t108 :: s109 :: s110 :: s111 :: s112 :: s113 :: s114 :: s115 :: s116 :: s117 :: s118 :: s119 :: s120 :: s121 :: s122 :: s123 :: s124 :: s125 :: s126 :: s127 :: s128 :: s129 :: s130 :: s131 :: s132 :: s133 :: s134 :: s135 :: s136 :: s137 :: s138 :: s139 :: s140 :: s141 :: s142 :: s143 :: s144 :: s145 :: s146 :: s147 :: s148 :: s149 :: s150 :: s151 :: s152 :: s153 :: s154 :: s155 :: s156 :: s157 :: s158 :: s159 :: s160 :: s161 :: s162 :: s163 :: s164 :: s165 :: s166 :: s167 :: s168 :: s169 :: s170 :: s171 :: s172 :: s173 :: s174 :: s175 :: s176 :: s177 :: s178 :: s179 :: s180 :: s181 :: s182 :: s183 :: s184 :: s185 :: s186 :: s187 :: s188 :: s189 :: s190 :: s191 :: s192 :: s193 :: s194 :: s195 :: s196 :: s197 :: s198 :: s199 :: s200 :: s201 :: s202 :: s203 :: []), []⟩ w') :
 Code.wp Tryz.prog c Q ⟨List.toArray (s0 :: s1 :: s2 :: s3 :: s4 :: s5 :: s6 :: s7 :: .pointer (some ⟨b1, 0, none⟩) :: s9 :: .int .i64 16 :: s11 :: s12 :: s13 :: s14 :: s15 :: s16 :: s17 :: s18 :: s19 :: s20 :: s21 :: s22 :: s23 :: s24 :: s25 :: s26 :: s27 :: s28 :: s29 :: s30 :: s31 :: s32 :: s33 :: s34 :: s35 :: s36 :: s37 :: s38 :: s39 :: s40 :: s41 :: s42 :: s43 :: s44 :: s45 :: s46 :: s47 :: s48 :: s49 :: s50 :: s51 :: s52 :: s53 :: s54 :: s55 :: s56 :: s57 :: s58 :: s59 :: s60 :: s61 :: s62 :: s63 :: s64 :: s65 :: s66 :: s67 :: s68 :: s69 :: s70 :: s71 :: s72 :: s73 :: s74 :: s75 :: s76 :: s77 :: s78 :: s79 :: s80 :: s81 :: s82 :: s83 :: s84 :: s85 :: s86 :: s87 :: s88 :: s89 :: s90 :: s91 :: s92 :: s93 :: s94 :: s95 :: s96 :: s97 :: s98 :: s99 :: s100 :: s101 :: s102 :: s103 :: s104 :: s105 :: s106 :: s107 :: s108 :: s109 :: s110 :: s111 :: s112 :: s113 :: s114 :: s115 :: s116 :: s117 :: s118 :: s119 :: s120 :: s121 :: s122 :: s123 :: s124 :: s125 :: s126 :: s127 :: s128 :: s129 :: s130 :: s131 :: s132 :: s133 :: s134 :: s135 :: s136 :: s137 :: s138 :: s139 :: s140 :: s141 :: s142 :: s143 :: s144 :: s145 :: s146 :: s147 :: s148 :: s149 :: s150 :: s151 :: s152 :: s153 :: s154 :: s155 :: s156 :: s157 :: s158 :: s159 :: s160 :: s161 :: s162 :: s163 :: s164 :: s165 :: s166 :: s167 :: s168 :: s169 :: s170 :: s171 :: s172 :: s173 :: s174 :: s175 :: s176 :: s177 :: s178 :: s179 :: s180 :: s181 :: s182 :: s183 :: s184 :: s185 :: s186 :: s187 :: s188 :: s189 :: s190 :: s191 :: s192 :: s193 :: s194 :: s195 :: s196 :: s197 :: s198 :: s199 :: s200 :: s201 :: s202 :: s203 :: []), []⟩ w := by
 subst hc
 conv => arg 2; whnf
 go_loopw [10] (fun v wr => ∃ i : Nat, 16 ≤ i ∧ i ≤ 64 ∧ v = .int .i64 i ∧ ∃ xs : List Int, xs.length = 64 ∧ xs.take i = sched ms (i - 16) ∧ Own w0 wr ((b1, u32s xs, 152) :: L)) (fun v _ => 64 - (intOf v).toNat)
 case atStart => exact ⟨16, by omega, by omega, rfl, xs, hxs, h16, H⟩
 case round =>
  clear H
  obtain ⟨i, hi0, hi, rfl, xs, hxs, htk, H⟩ := hrel
  by_cases hlt : i < 64
  · have hstep : Hid ((xs.set i (nextW (sched ms (i - 16)) i)).take (i + 1) = sched ms (i + 1 - 16)) := by
     show _ = _
     rw [take_set htk (by omega), show i + 1 - 16 = (i - 16) + 1 by omega, sched, show 16 + (i - 16) = i by omega]
    have hnw : Hid (nextW (sched ms (i - 16)) i = nextW xs i) := by
     show _ = _
     simp only [nextW]
     rw [getD_take htk (show i - 16 < i by omega), getD_take htk (show i - 15 < i by omega), getD_take htk (show i - 7 < i by omega), getD_take htk (show i - 2 < i by omega)]
    clear htk
    go_wp2_with fail
    refine region_drew 10 (by kernel_rfl) (by kernel_rfl) (by kernel_rfl) ?_
    simp only [List.take_succ_cons, List.take_nil, List.drop_succ_cons, List.drop_nil]
    repeat (first
     | (refine qd_val rfl (fun m => rn_loadI (H.drewN m) rfl rfl (.head _) rfl rfl (by omega)) ?_; go_frame)
     | go_big_quiet_step (fail))
    refine wpQuiet_nil ?_
    rintro w' hw'
    have H' := H
    clear H
    have H := (show Own w0 w' _ by obtain ⟨m, rfl⟩ := hw'; exact H'.drewN m)
    clear H' hw'
    go_wp2_with fail
    refine region_drew 29 (by kernel_rfl) (by kernel_rfl) (by kernel_rfl) ?_
    simp only [List.take_succ_cons, List.take_zero, List.drop_succ_cons, List.drop_zero]
    repeat (first
     | (refine qd_val rfl (fun m => rn_loadI (H.drewN m) rfl rfl (.head _) rfl rfl (by omega)) ?_; go_frame)
     | go_big_quiet_step ((go_at_call 100; exact Calls.quiet_of_same (turnk _ _ (by decide) (by decide) _))))
    refine wpQuiet_nil ?_
    rintro w' hw'
    have H' := H
    clear H
    have H := (show Own w0 w' _ by obtain ⟨m, rfl⟩ := hw'; exact H'.drewN m)
    clear H' hw'
    go_wp2_with (refine st_skip rfl (rn_storeI H rfl rfl rfl rfl .head (by omega)) ?_; clear H; intro w2 H)
    refine ⟨⟨i + 1, by omega, by omega, by go_num, xs.set i (nextW xs i), by simpa using hxs, by rw [← hnw.out]; exact hstep.out, ?_⟩, by simp [intOf]; omega⟩
    simp only [nextW, w32, sig0, sig1, xor32, Int.emod_add_emod]
    simp only [Int.emod_add_emod] at H
    exact H
  · have h64 : i = 64 := by omega
    go_wp2_with fail
    subst h64
    rw [List.take_of_length_le (by omega)] at htk
    rw [show sched ms 48 = xs from htk.symm] at hQ
    exact hQ _ _ _ _ _ _ _ _ _ _ _ _ _ _ _ _ _ _ _ _ _ _ _ _ _ _ _ _ _ _ _ _ _ _ _ _ _ _ _ _ _ _ _ _ _ hxs H
set_option maxRecDepth 100000 in
theorem ref_rounds (w0 w : World) (b0 b1 b2 : Nat) (s0' : St) (ws : List Int) (L : List Ent) (hws : ws.length = 64)
 (H : Own w0 w ((b2, u32s s0'.l, 136) :: (b1, u32s ws, 152) :: (b0, u32s shaK, 152) :: L))
 (Q : Exit → Act → World → Prop) (c : Code) (hc : refCode [1, 1, 1, 1, 1, 1, 0, 1, 0] = c) {s0 s1 s2 s3 s4 s5 s6 s9 s10 s11 s12 s15 s16 s17 s18 s19 s20 s21 s22 s23 s24 s25 s26 s27 s28 s29 s30 s31 s32 s33 s34 s35 s36 s37 s38 s39 s40 s41 s42 s43 s44 s45 s46 s47 s48 s49 s50 s51 s52 s53 s54 s55 s56 s57 s58 s59 s60 s61 s62 s63 s64 s65 s66 s67 s68 s69 s70 s71 s72 s73 s74 s75 s76 s77 s78 s79 s80 s81 s82 s83 s84 s85 s86 s87 s88 s89 s90 s91 s92 s93 s94 s95 s96 s97 s98 s99 s100 s101 s102 s103 s104 s105 s106 s107 s108 s109 s110 s111 s112 s113 s114 s115 s116 s117 s118 s119 s120 s121 s122 s123 s124 s125 s126 s127 s128 s129 s130 s131 s132 s133 s134 s135 s136 s137 s138 s139 s140 s141 s142 s143 s144 s145 s146 s147 s148 s149 s150 s151 s152 s153 s154 s155 s156 s157 s158 s159 s160 s161 s162 s163 s164 s165 s166 s167 s168 s169 s170 s171 s172 s173 s174 s175 s176 s177 s178 s179 s180 s181 s182 s183 s184 s185 s186 s187 s188 s189 s190 s191 s192 s193 s194 s195 s196 s197 s198 s199 s200 s201 s202 s203 : Value}
 (hQ : ∀ (t14 t15 t16 t17 t18 t110 t111 t112 t113 t114 t115 t116 t117 t118 t119 t120 t121 t122 t123 t124 t125 t126 t127 t128 t129 t130 t131 t132 t133 t134 t135 t136 t137 t138 t139 t140 t141 t142 t143 t144 t145 t146 t147 t148 t149 t150 t151 t152 t153 t154 t155 t156 t157 t158 t159 t160 t161 t162 t163 t164 t165 t166 t167 t168 t169 t170 t171 t172 t173 t174 t175 t176 t177 t178 t179 t180 t181 t182 t183 t184 t185 t186 t187 t188 t189 : Value) (w' : World), Own w0 w' ((b2, u32s (rnds shaK ws s0' 64).l, 136) :: (b1, u32s ws, 152) :: (b0, u32s shaK, 152) :: L) → Q (.exit 4) ⟨List.toArray (s0 :: s1 :: s2 :: s3 :: s4 :: s5 :: s6 :: .pointer (some ⟨b0, 0, none⟩) :: .pointer (some ⟨b1, 0, none⟩) :: s9 :: s10 :: s11 :: s12 :: .pointer (some ⟨b2, 0, none⟩) :: t14 :: t15 :: t16 :: t17 :: t18 :: s19 :: s20 :: s21 :: s22 :: s23 :: s24 :: s25 :: s26 :: s27 :: s28 :: s29 :: s30 :: s31 :: s32 :: s33 :: s34 :: s35 :: s36 :: s37 :: s38 :: s39 :: s40 :: s41 :: s42 :: s43 :: s44 :: s45 :: s46 :: s47 :: s48 :: s49 :: s50 :: s51 :: s52 :: s53 :: s54 :: s55 :: s56 :: s57 :: s58 :: s59 :: s60 :: s61 :: s62 :: s63 :: s64 :: s65 :: s66 :: s67 :: s68 :: s69 :: s70 :: s71 :: s72 :: s73 :: s74 :: s75 :: s76 :: s77 :: s78 :: s79 :: s80 :: s81 :: s82 :: s83 :: s84 :: s85 :: s86 :: s87 :: s88 :: s89 :: s90 :: s91 :: s92 :: s93 :: s94 :: s95 :: s96 :: s97 :: s98 :: s99 :: s100 :: s101 :: s102 :: s103 :: s104 :: s105 :: s106 :: s107 :: s108 :: s109 :: t110 :: t111 :: t112 :: t113 :: t114 :: t115 :: t116 :: t117 :: t118 :: t119 :: t120 :: t121 :: t122 :: t123 :: t124 :: t125 :: t126 :: t127 :: t128 :: t129 :: t130 :: t131 :: t132 :: t133 :: t134 :: t135 :: t136 :: t137 :: t138 :: t139 :: t140 :: t141 :: t142 :: t143 :: t144 :: t145 :: t146 :: t147 :: t148 :: t149 :: t150 :: t151 :: t152 :: t153 :: t154 :: t155 :: t156 :: t157 :: t158 :: t159 :: t160 :: t161 :: t162 :: t163 :: t164 :: t165 :: t166 :: t167 :: t168 :: t169 :: t170 :: t171 :: t172 :: t173 :: t174 :: t175 :: t176 :: t177 :: t178 :: t179 :: t180 :: t181 :: t182 :: t183 :: t184 :: t185 :: t186 :: t187 :: t188 :: t189 :: s190 :: s191 :: s192 :: s193 :: s194 :: s195 :: s196 :: s197 :: s198 :: s199 :: s200 :: s201 :: s202 :: s203 :: []), []⟩ w') :
 Code.wp Tryz.prog c Q ⟨List.toArray (s0 :: s1 :: s2 :: s3 :: s4 :: s5 :: s6 :: .pointer (some ⟨b0, 0, none⟩) :: .pointer (some ⟨b1, 0, none⟩) :: s9 :: s10 :: s11 :: s12 :: .pointer (some ⟨b2, 0, none⟩) :: .int .i64 0 :: s15 :: s16 :: s17 :: s18 :: s19 :: s20 :: s21 :: s22 :: s23 :: s24 :: s25 :: s26 :: s27 :: s28 :: s29 :: s30 :: s31 :: s32 :: s33 :: s34 :: s35 :: s36 :: s37 :: s38 :: s39 :: s40 :: s41 :: s42 :: s43 :: s44 :: s45 :: s46 :: s47 :: s48 :: s49 :: s50 :: s51 :: s52 :: s53 :: s54 :: s55 :: s56 :: s57 :: s58 :: s59 :: s60 :: s61 :: s62 :: s63 :: s64 :: s65 :: s66 :: s67 :: s68 :: s69 :: s70 :: s71 :: s72 :: s73 :: s74 :: s75 :: s76 :: s77 :: s78 :: s79 :: s80 :: s81 :: s82 :: s83 :: s84 :: s85 :: s86 :: s87 :: s88 :: s89 :: s90 :: s91 :: s92 :: s93 :: s94 :: s95 :: s96 :: s97 :: s98 :: s99 :: s100 :: s101 :: s102 :: s103 :: s104 :: s105 :: s106 :: s107 :: s108 :: s109 :: s110 :: s111 :: s112 :: s113 :: s114 :: s115 :: s116 :: s117 :: s118 :: s119 :: s120 :: s121 :: s122 :: s123 :: s124 :: s125 :: s126 :: s127 :: s128 :: s129 :: s130 :: s131 :: s132 :: s133 :: s134 :: s135 :: s136 :: s137 :: s138 :: s139 :: s140 :: s141 :: s142 :: s143 :: s144 :: s145 :: s146 :: s147 :: s148 :: s149 :: s150 :: s151 :: s152 :: s153 :: s154 :: s155 :: s156 :: s157 :: s158 :: s159 :: s160 :: s161 :: s162 :: s163 :: s164 :: s165 :: s166 :: s167 :: s168 :: s169 :: s170 :: s171 :: s172 :: s173 :: s174 :: s175 :: s176 :: s177 :: s178 :: s179 :: s180 :: s181 :: s182 :: s183 :: s184 :: s185 :: s186 :: s187 :: s188 :: s189 :: s190 :: s191 :: s192 :: s193 :: s194 :: s195 :: s196 :: s197 :: s198 :: s199 :: s200 :: s201 :: s202 :: s203 :: []), []⟩ w := by
 subst hc
 conv => arg 2; whnf
 go_loopw [14] (fun v wr => ∃ i : Nat, i ≤ 64 ∧ v = .int .i64 i ∧ Own w0 wr ((b2, u32s (rnds shaK ws s0' i).l, 136) :: (b1, u32s ws, 152) :: (b0, u32s shaK, 152) :: L)) (fun v _ => 64 - (intOf v).toNat)
 case atStart => exact ⟨0, by omega, rfl, H⟩
 case round =>
  clear H
  obtain ⟨i, hi, rfl, H⟩ := hrel
  by_cases hlt : i < 64
  · have HN : Hid (rnds shaK ws s0' (i + 1) = rnd (shaK[i]?.getD 0) (ws[i]?.getD 0) (rnds shaK ws s0' i)) := rfl
    have hK := Hh length_shaK
    have hW := Hh hws
    clear hws
    have hsg : IntKind.u32.signed = false := rfl
    generalize rnds shaK ws s0' i = sv at H HN
    obtain ⟨va, vb, vc, vd, ve, vf, vg, vh⟩ := sv
    go_wp2_with fail
    refine region_drew 6 (by kernel_rfl) (by kernel_rfl) (by kernel_rfl) ?_
    simp only [List.take_succ_cons, List.take_nil, List.drop_succ_cons, List.drop_nil]
    repeat (first
     | (refine qd_val rfl (fun m => rn_load (H.drewN m) rfl rfl (.head _) rfl rfl rfl) ?_; go_frame)
     | (refine qd_val rfl (fun m => rn_loadI (H.drewN m) rfl rfl (.tail _ (.head _)) rfl rfl (by have := hW.out; omega)) ?_; go_frame)
     | (refine qd_val rfl (fun m => rn_loadI (H.drewN m) rfl rfl (.tail _ (.tail _ (.head _))) rfl rfl (by have := hK.out; omega)) ?_; go_frame)
     | go_big_quiet_step (fail))
    refine wpQuiet_nil ?_
    rintro w' hw'
    have H' := H
    clear H
    have H := (show Own w0 w' _ by obtain ⟨m, rfl⟩ := hw'; exact H'.drewN m)
    clear H' hw'
    go_wp2_with fail
    refine region_drew 31 (by kernel_rfl) (by kernel_rfl) (by kernel_rfl) ?_
    simp only [List.take_succ_cons, List.take_nil, List.drop_succ_cons, List.drop_nil]
    repeat (first
     | (refine qd_val rfl (fun m => rn_load (H.drewN m) rfl rfl (.head _) rfl rfl rfl) ?_; go_frame)
     | (refine qd_val rfl (fun m => rn_loadI (H.drewN m) rfl rfl (.tail _ (.head _)) rfl rfl (by have := hW.out; omega)) ?_; go_frame)
     | (refine qd_val rfl (fun m => rn_loadI (H.drewN m) rfl rfl (.tail _ (.tail _ (.head _))) rfl rfl (by have := hK.out; omega)) ?_; go_frame)
     | go_big_quiet_step ((go_at_call 100; exact Calls.quiet_of_same (turnk _ _ (by decide) (by decide) _))))
    refine wpQuiet_nil ?_
    rintro w' hw'
    have H' := H
    clear H
    have H := (show Own w0 w' _ by obtain ⟨m, rfl⟩ := hw'; exact H'.drewN m)
    clear H' hw'
    go_wp2_with fail
    refine region_drew 25 (by kernel_rfl) (by kernel_rfl) (by kernel_rfl) ?_
    simp only [List.take_succ_cons, List.take_nil, List.drop_succ_cons, List.drop_nil]
    repeat (first
     | (refine qd_val rfl (fun m => rn_load (H.drewN m) rfl rfl (.head _) rfl rfl rfl) ?_; go_frame)
     | (refine qd_val rfl (fun m => rn_loadI (H.drewN m) rfl rfl (.tail _ (.head _)) rfl rfl (by have := hW.out; omega)) ?_; go_frame)
     | (refine qd_val rfl (fun m => rn_loadI (H.drewN m) rfl rfl (.tail _ (.tail _ (.head _))) rfl rfl (by have := hK.out; omega)) ?_; go_frame)
     | go_big_quiet_step ((go_at_call 100; exact Calls.quiet_of_same (turnk _ _ (by decide) (by decide) _))))
    refine wpQuiet_nil ?_
    rintro w' hw'
    have H' := H
    clear H
    have H := (show Own w0 w' _ by obtain ⟨m, rfl⟩ := hw'; exact H'.drewN m)
    clear H' hw'
    go_wp2_with (first
     | (refine st_val rfl (rn_load H rfl rfl (.head _) rfl rfl rfl) ?_)
     | (refine st_val rfl (rn_build (cs := u32s (rnd (shaK[i]?.getD 0) (ws[i]?.getD 0) ⟨va, vb, vc, vd, ve, vf, vg, vh⟩).l) rfl (by kernel_rfl)) ?_)
     | (refine st_skip rfl (rn_storeAll H rfl rfl rfl rfl .head rfl (oneCell_ints _ _)) ?_; clear H; intro w2 H))
    refine ⟨⟨i + 1, by omega, by go_num, ?_⟩, by simp [intOf]; omega⟩
    rw [HN.out]
    exact H
  · have h64 : i = 64 := by omega
    go_wp2_with fail
    subst h64
    exact H
end Go.Proofs.YtfihlmnbonnekaaGreat
namespace Go.Proofs.YtfihlmnbonnekaaGreat
open Go.RowKit
set_option maxRecDepth 100000 in
theorem ref_add (w0 w : World) (bh br b0 b1 b2 : Nat) (ss tt : St) (ws : List Int) (zs : List Value)
 (H : Own w0 w [(b2, u32s tt.l, 136), (b1, u32s ws, 152), (b0, u32s shaK, 152), (br, zs, 136), (bh, u32s ss.l, 136)])
 (Q : Exit → Act → World → Prop) (c : Code) (hc : refCode [1, 1, 1, 1, 1, 1, 1, 0, 1, 0] = c) {s0 s1 s2 s4 s5 s6 s7 s8 s9 s10 s11 s12 s14 s15 s16 s17 s18 s20 s21 s22 s23 s24 s25 s26 s27 s28 s29 s30 s31 s32 s33 s34 s35 s36 s37 s38 s39 s40 s41 s42 s43 s44 s45 s46 s47 s48 s49 s50 s51 s52 s53 s54 s55 s56 s57 s58 s59 s60 s61 s62 s63 s64 s65 s66 s67 s68 s69 s70 s71 s72 s73 s74 s75 s76 s77 s78 s79 s80 s81 s82 s83 s84 s85 s86 s87 s88 s89 s90 s91 s92 s93 s94 s95 s96 s97 s98 s99 s100 s101 s102 s103 s104 s105 s106 s107 s108 s109 s110 s111 s112 s113 s114 s115 s116 s117 s118 s119 s120 s121 s122 s123 s124 s125 s126 s127 s128 s129 s130 s131 s132 s133 s134 s135 s136 s137 s138 s139 s140 s141 s142 s143 s144 s145 s146 s147 s148 s149 s150 s151 s152 s153 s154 s155 s156 s157 s158 s159 s160 s161 s162 s163 s164 s165 s166 s167 s168 s169 s170 s171 s172 s173 s174 s175 s176 s177 s178 s179 s180 s181 s182 s183 s184 s185 s186 s187 s188 s189 s190 s191 s192 s193 s194 s195 s196 s197 s198 s199 s200 s201 s202 s203 : Value}
 (hQ : ∀ (t19 t190 t191 t192 t193 t194 t195 t196 t197 t198 t199 t200 t201 t202 : Value) (w' : World), Own w0 w' [(b2, u32s tt.l, 136), (b1, u32s ws, 152), (b0, u32s shaK, 152), (br, zs, 136), (bh, u32s (ss.add tt).l, 136)] → Q (.exit 6) ⟨List.toArray (s0 :: s1 :: s2 :: .pointer (some ⟨bh, 0, none⟩) :: s4 :: s5 :: s6 :: s7 :: s8 :: s9 :: s10 :: s11 :: s12 :: .pointer (some ⟨b2, 0, none⟩) :: s14 :: s15 :: s16 :: s17 :: s18 :: t19 :: s20 :: s21 :: s22 :: s23 :: s24 :: s25 :: s26 :: s27 :: s28 :: s29 :: s30 :: s31 :: s32 :: s33 :: s34 :: s35 :: s36 :: s37 :: s38 :: s39 :: s40 :: s41 :: s42 :: s43 :: s44 :: s45 :: s46 :: s47 :: s48 :: s49 :: s50 :: s51 :: s52 :: s53 :: s54 :: s55 :: s56 :: s57 :: s58 :: s59 :: s60 :: s61 :: s62 :: s63 :: s64 :: s65 :: s66 :: s67 :: s68 :: s69 :: s70 :: s71 :: s72 :: s73 :: s74 :: s75 :: s76 :: s77 :: s78 :: s79 :: s80 :: s81 :: s82 :: s83 :: s84 :: s85 :: s86 :: s87 :: s88 :: s89 :: s90 :: s91 :: s92 :: s93 :: s94 :: s95 :: s96 :: s97 :: s98 :: s99 :: s100 :: s101 :: s102 :: s103 :: s104 :: s105 :: s106 :: s107 :: s108 :: s109 :: s110 :: s111 :: s112 :: s113 :: s114 :: s115 :: s116 :: s117 :: s118 :: s119 :: s120 :: s121 :: s122 :: s123 :: s124 :: s125 :: s126 :: s127 :: s128 :: s129 :: s130 :: s131 :: s132 :: s133 :: s134 :: s135 :: s136 :: s137 :: s138 :: s139 :: s140 :: s141 :: s142 :: s143 :: s144 :: s145 :: s146 :: s147 :: s148 :: s149 :: s150 :: s151 :: s152 :: s153 :: s154 :: s155 :: s156 :: s157 :: s158 :: s159 :: s160 :: s161 :: s162 :: s163 :: s164 :: s165 :: s166 :: s167 :: s168 :: s169 :: s170 :: s171 :: s172 :: s173 :: s174 :: s175 :: s176 :: s177 :: s178 :: s179 :: s180 :: s181 :: s182 :: s183 :: s184 :: s185 :: s186 :: s187 :: s188 :: s189 :: t190 :: t191 :: t192 :: t193 :: t194 :: t195 :: t196 :: t197 :: t198 :: t199 :: t200 :: t201 :: t202 :: s203 :: []), []⟩ w') :
 Code.wp Tryz.prog c Q ⟨List.toArray (s0 :: s1 :: s2 :: .pointer (some ⟨bh, 0, none⟩) :: s4 :: s5 :: s6 :: s7 :: s8 :: s9 :: s10 :: s11 :: s12 :: .pointer (some ⟨b2, 0, none⟩) :: s14 :: s15 :: s16 :: s17 :: s18 :: .int .i64 0 :: s20 :: s21 :: s22 :: s23 :: s24 :: s25 :: s26 :: s27 :: s28 :: s29 :: s30 :: s31 :: s32 :: s33 :: s34 :: s35 :: s36 :: s37 :: s38 :: s39 :: s40 :: s41 :: s42 :: s43 :: s44 :: s45 :: s46 :: s47 :: s48 :: s49 :: s50 :: s51 :: s52 :: s53 :: s54 :: s55 :: s56 :: s57 :: s58 :: s59 :: s60 :: s61 :: s62 :: s63 :: s64 :: s65 :: s66 :: s67 :: s68 :: s69 :: s70 :: s71 :: s72 :: s73 :: s74 :: s75 :: s76 :: s77 :: s78 :: s79 :: s80 :: s81 :: s82 :: s83 :: s84 :: s85 :: s86 :: s87 :: s88 :: s89 :: s90 :: s91 :: s92 :: s93 :: s94 :: s95 :: s96 :: s97 :: s98 :: s99 :: s100 :: s101 :: s102 :: s103 :: s104 :: s105 :: s106 :: s107 :: s108 :: s109 :: s110 :: s111 :: s112 :: s113 :: s114 :: s115 :: s116 :: s117 :: s118 :: s119 :: s120 :: s121 :: s122 :: s123 :: s124 :: s125 :: s126 :: s127 :: s128 :: s129 :: s130 :: s131 :: s132 :: s133 :: s134 :: s135 :: s136 :: s137 :: s138 :: s139 :: s140 :: s141 :: s142 :: s143 :: s144 :: s145 :: s146 :: s147 :: s148 :: s149 :: s150 :: s151 :: s152 :: s153 :: s154 :: s155 :: s156 :: s157 :: s158 :: s159 :: s160 :: s161 :: s162 :: s163 :: s164 :: s165 :: s166 :: s167 :: s168 :: s169 :: s170 :: s171 :: s172 :: s173 :: s174 :: s175 :: s176 :: s177 :: s178 :: s179 :: s180 :: s181 :: s182 :: s183 :: s184 :: s185 :: s186 :: s187 :: s188 :: s189 :: s190 :: s191 :: s192 :: s193 :: s194 :: s195 :: s196 :: s197 :: s198 :: s199 :: s200 :: s201 :: s202 :: s203 :: []), []⟩ w := by
 subst hc
 conv => arg 2; whnf
 go_loopw [19] (fun v wr => ∃ i : Nat, i ≤ 8 ∧ v = .int .i64 i ∧ Own w0 wr [(b2, u32s tt.l, 136), (b1, u32s ws, 152), (b0, u32s shaK, 152), (br, zs, 136), (bh, u32s (addN ss tt i), 136)]) (fun v _ => 8 - (intOf v).toNat)
 case atStart => exact ⟨0, by omega, rfl, H⟩
 case round =>
  clear H
  obtain ⟨i, hi, rfl, H⟩ := hrel
  by_cases hlt : i < 8
  · have hstep := Hh (addN_step ss tt i hlt)
    have ha := Hh (length_addN ss tt i)
    have ht := Hh (length_l tt)
    generalize addN ss tt i = xs at H hstep ha
    generalize tt.l = ys at H hstep ht
    go_wp2_with fail
    refine region_drew 9 (by kernel_rfl) (by kernel_rfl) (by kernel_rfl) ?_
    simp only [List.take_succ_cons, List.take_zero, List.drop_succ_cons, List.drop_zero]
    repeat (first
     | (refine qd_val rfl (fun m => rn_loadI (H.drewN m) rfl rfl (.head _) rfl rfl (by have := ht.out; omega)) ?_; go_frame)
     | (refine qd_val rfl (fun m => rn_loadI (H.drewN m) rfl rfl (.tail _ (.tail _ (.tail _ (.tail _ (.head _))))) rfl rfl (by have := ha.out; omega)) ?_; go_frame)
     | go_big_quiet_step (fail))
    refine wpQuiet_nil ?_
    rintro w' hw'
    have H' := H
    clear H
    have H := (show Own w0 w' _ by obtain ⟨m, rfl⟩ := hw'; exact H'.drewN m)
    clear H' hw'
    go_wp2_with (refine st_skip rfl (rn_storeI H rfl rfl rfl rfl (.tail (.tail (.tail (.tail .head)))) (by have := ha.out; omega)) ?_; clear H; intro w2 H)
    refine ⟨⟨i + 1, by omega, by go_num, ?_⟩, by simp [intOf]; omega⟩
    rw [← hstep.out]
    exact H
  · have h8 : i = 8 := by omega
    go_wp2_with fail
    subst h8
    exact H
set_option maxRecDepth 100000 in
theorem refblock_any (w : World) (s : St) (sb so n cap p : Nat) (bs : List Int) (hn : p + 64 ≤ n) (hn2 : n ≤ 140737488351232)
 (hcell : ∀ i, i < n → w.cell? ⟨sb, so + i, none⟩ = some (.int .u8 (bs[i]?.getD 0))) :
 Calls Tryz.prog 87 #[.agg (u32s s.l).toArray, .slice (some ⟨sb, so, none⟩) n cap, .int .i64 p] w fun e w' => e = .returned (.agg (u32s (comp s bs p).l).toArray) ∧ Own w w' [] := by
 have hsb : sb < w.heap.size := World.block_lt_of_cell? w ⟨sb, so + 0, none⟩ (hcell 0 (by omega))
 have H := Own.refl w
 have hcell' := Hh hcell
 clear hcell
 have tok : True := trivial
 go_enter Tryz.func87, Tryz.ntmps87
 go_wp2_with (first
  | (refine st_new rfl (rn_box H rfl rfl rfl) ?_; clear H; intro bh w1 hbh H)
  | (refine st_new rfl (rn_alloc H rfl info_a8) ?_; clear H; intro br w2 hbr H)
  | (clear tok; refine st_new rfl (rn_alloc H rfl info_a64) ?_; clear H; intro b0 w3 hb0 H)
  | (refine st_new rfl (rn_alloc H rfl info_a64) ?_; clear H; intro b1 w3 hb1 H)
  | (refine st_val rfl (rn_build (cs := u32s shaK) rfl (by kernel_rfl)) ?_)
  | (refine st_skip rfl (rn_storeAll H rfl rfl rfl size_a64 .head (by kernel_rfl) (oneCell_ints _ _)) ?_; clear H; intro w3 H))
 have hz : ∀ w' xs', Own w w' [(b1, u32s xs', 152), (b0, u32s shaK, 152), (br, u32s (List.replicate 8 0), 136), (bh, u32s s.l, 136)] → ∀ i, i < n → w'.cell? ⟨sb, so + i, none⟩ = some (.int .u8 (bs[i]?.getD 0)) :=
  fun w' xs' H' i hi => H'.old (hcell'.out i hi) (by simp; omega)
 have hz' := Hh hz
 clear hz
 refine ref_words w _ sb so n cap b1 p bs (List.replicate 64 0) _ rfl hn hn2 H hz'.out _ _ (by kernel_rfl) ?_
 clear H hz'
 intro x9 x21 x22 x23 x24 x25 x26 x27 x28 x29 x30 x31 x32 x33 x34 x35 x36 x37 x38 x39 x40 x41 x42 x43 x44 x45 x46 x47 x48 x49 x50 x51 x52 x53 x54 x55 x56 x57 x58 x59 x60 x61 x62 x63 x64 x65 x66 x67 wa xa hxa htk H
 have htk' := Hh htk
 clear htk
 go_wp2_with fail
 refine ref_sched w _ b1 (words bs p 16) xa _ hxa htk'.out H _ _ (by kernel_rfl) ?_
 clear H hxa htk'
 intro y10 y11 y12 y68 y69 y70 y71 y72 y73 y74 y75 y76 y77 y78 y79 y80 y81 y82 y83 y84 y85 y86 y87 y88 y89 y90 y91 y92 y93 y94 y95 y96 y97 y98 y99 y100 y101 y102 y103 y104 y105 y106 y107 y108 wb hws H
 have hws' := Hh hws
 clear hws
 have hfin : Hid (comp s bs p = s.add (rnds shaK (sched (words bs p 16) 48) s 64)) := rfl
 generalize sched (words bs p 16) 48 = sc at H hws' hfin
 go_wp2_with (first
  | (refine st_val rfl (rn_loadAll H rfl rfl (.tail _ (.tail _ (.tail _ (.head _)))) rfl rfl size_a8) ?_)
  | (refine st_new rfl (rn_alloc H rfl info_a8) ?_; clear H; intro b2 wc hb2 H)
  | (refine st_skip rfl (rn_storeAll H rfl rfl rfl size_a8 .head rfl (oneCell_ints _ _)) ?_; clear H; intro wd H))
 refine ref_rounds w _ b0 b1 b2 s sc _ hws'.out H _ _ (by kernel_rfl) ?_
 clear H
 intro z14 z15 z16 z17 z18 z110 z111 z112 z113 z114 z115 z116 z117 z118 z119 z120 z121 z122 z123 z124 z125 z126 z127 z128 z129 z130 z131 z132 z133 z134 z135 z136 z137 z138 z139 z140 z141 z142 z143 z144 z145 z146 z147 z148 z149 z150 z151 z152 z153 z154 z155 z156 z157 z158 z159 z160 z161 z162 z163 z164 z165 z166 z167 z168 z169 z170 z171 z172 z173 z174 z175 z176 z177 z178 z179 z180 z181 z182 z183 z184 z185 z186 z187 z188 z189 we H
 go_wp2_with fail
 refine ref_add w _ bh br b0 b1 b2 s (rnds shaK sc s 64) sc _ H _ _ (by kernel_rfl) ?_
 clear H
 intro v19 v190 v191 v192 v193 v194 v195 v196 v197 v198 v199 v200 v201 v202 wf H
 go_wp2_with (first
  | (refine st_val rfl (rn_loadAll H rfl rfl (.tail _ (.tail _ (.tail _ (.tail _ (.head _))))) rfl rfl size_a8) ?_)
  | (refine st_skip rfl (rn_storeAll H rfl rfl rfl size_a8 (.tail (.tail (.tail .head))) rfl (oneCell_ints _ _)) ?_; clear H; intro wg H))
 refine fin_cell rfl H rfl (.tail _ (.tail _ (.tail _ (.head _)))) rfl rfl size_a8 rfl ⟨?_, H.end0 (by simp; omega)⟩
 rw [hfin.out]
end Go.Proofs.YtfihlmnbonnekaaGreat
