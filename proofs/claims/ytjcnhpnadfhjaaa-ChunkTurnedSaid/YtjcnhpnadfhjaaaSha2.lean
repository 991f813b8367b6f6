/- sha's block: the program's text computes 'comps'. Printed by a program of this work (wip/gen/blk.py). -/
import Derived.Test.YtjcnhpnadfhjaaaSha1
import Derived.Test.YtjcnhpnadfhjaaaReg
import Derived.Test.YtjcnhpnadfhjaaaWords
import Derived.Maps.RangeWalk
import Derived.Lib.Hide
namespace Go.Proofs.Ytjcnhpnadfhjaaa
open Go.RowKit

def codeAt : Code → List Nat → Code
  | c, [] => c
  | .seq x _, 0 :: r => codeAt x r
  | .seq _ y, 1 :: r => codeAt y r
  | .cond _ x _, 0 :: r => codeAt x r
  | .cond _ _ y, 1 :: r => codeAt y r
  | .block _ b, 0 :: r => codeAt b r
  | .loop b, 0 :: r => codeAt b r
  | .scope b, 0 :: r => codeAt b r
  | _, _ => .skip
noncomputable def blkCode (p : List Nat) : Code := codeAt (Try.f33.body.getD .skip) p

set_option maxRecDepth 100000 in
set_option maxHeartbeats 1000000 in
theorem blk_words (w0 w : World) (sb so n cap b1 : Nat) (bk : List Int) (xs : List Int) (L : List Ent) (hxs : xs.length = 64) (hn : 64 ≤ n) (hn2 : n ≤ 140737488351232) (hbk : bk.length = n)
    (H : Own w0 w ((b1, u32s xs, 62) :: L))
    (hsrc : ∀ w' xs', Own w0 w' ((b1, u32s xs', 62) :: L) → ∀ i, i < n → w'.cell? ⟨sb, so + i, none⟩ = some (.int .u8 (bk[i]?.getD 0)))
    (Q : Exit → Act → World → Prop) (c : Code) (hc : blkCode [1, 1, 0, 0, 1, 0, 0, 0, 1, 0] = c) {s0 s2 s3 s4 s6 s7 s8 s9 s10 s11 s12 s13 s14 s15 s16 s17 s18 s19 s20 s21 s22 s23 s24 s25 s27 s28 s29 s30 s31 s32 s33 s34 s35 s36 s37 s38 s39 s40 s41 s42 s43 s44 s45 s46 s47 s48 s49 s50 s51 s52 s53 s54 s55 s56 s57 s58 s59 s60 s61 s62 s63 s64 s65 s66 s67 s68 s69 s70 s71 s72 s73 s74 s75 s76 s77 s78 s79 s80 s81 s82 s83 s84 s85 s86 s87 s88 s89 s90 s91 s92 s93 s94 s95 s96 s97 s98 s99 s100 s101 s102 s103 s104 s105 s106 s107 s108 s109 s110 s111 s112 s113 s114 s115 s116 s117 s118 s119 s120 s121 s122 s123 s124 s125 s126 s127 s128 s129 s130 s131 s132 s133 s134 s135 s136 s137 s138 s139 s140 s141 s142 s143 s144 s145 s146 s147 s148 s149 s150 s151 s152 s153 s154 s155 s156 s157 s158 s159 s160 s161 s162 s163 s164 s165 s166 s167 s168 s169 s170 s171 s172 s173 s174 s175 s176 s177 s178 s179 s180 s181 s182 s183 s184 s185 s186 s187 s188 s189 s190 s191 s192 s193 s194 s195 s196 s197 s198 s199 s200 s201 s202 s203 s204 s205 s206 s207 s208 s209 s210 s211 s212 s213 s214 s215 s216 s217 s218 s219 : Value}
    (hQ : ∀ (t6 t26 t27 t28 t29 t30 t31 t32 t33 t34 t35 t36 t37 t38 t39 t40 t41 t42 t43 t44 t45 t46 t47 t48 t49 t50 t51 t52 t53 t54 t55 t56 t57 t58 t59 t60 t61 t62 t63 t64 : Value) (w' : World) (xs' : List Int), xs'.length = 64 → xs'.take 16 = words bk 0 16 → Own w0 w' ((b1, u32s xs', 62) :: L) → Q (.exit 2) ⟨List.toArray (s0 :: .slice (some ⟨sb, so, none⟩) n cap :: s2 :: s3 :: s4 :: .pointer (some ⟨b1, 0, none⟩) :: t6 :: s7 :: s8 :: s9 :: s10 :: s11 :: s12 :: s13 :: s14 :: s15 :: s16 :: s17 :: s18 :: s19 :: s20 :: s21 :: s22 :: s23 :: s24 :: s25 :: t26 :: t27 :: t28 :: t29 :: t30 :: t31 :: t32 :: t33 :: t34 :: t35 :: t36 :: t37 :: t38 :: t39 :: t40 :: t41 :: t42 :: t43 :: t44 :: t45 :: t46 :: t47 :: t48 :: t49 :: t50 :: t51 :: t52 :: t53 :: t54 :: t55 :: t56 :: t57 :: t58 :: t59 :: t60 :: t61 :: t62 :: t63 :: t64 :: s65 :: s66 :: s67 :: s68 :: s69 :: s70 :: s71 :: s72 :: s73 :: s74 :: s75 :: s76 :: s77 :: s78 :: s79 :: s80 :: s81 :: s82 :: s83 :: s84 :: s85 :: s86 :: s87 :: s88 :: s89 :: s90 :: s91 :: s92 :: s93 :: s94 :: s95 :: s96 :: s97 :: s98 :: s99 :: s100 :: s101 :: s102 :: s103 :: s104 :: s105 :: s106 :: s107 :: s108 :: s109 :: s110 :: s111 :: s112 :: s113 :: s114 :: s115 :: s116 :: s117 :: s118 :: s119 :: s120 :: s121 :: s122 :: s123 :: s124 :: s125 :: s126 :: s127 :: s128 :: s129 :: s130 :: s131 :: s132 :: s133 :: s134 :: s135 :: s136 :: s137 :: s138 :: s139 :: s140 :: s141 :: s142 :: s143 :: s144 :: s145 :: s146 :: s147 :: s148 :: s149 :: s150 :: s151 :: s152 :: s153 :: s154 :: s155 :: s156 :: s157 :: s158 :: s159 :: s160 :: s161 :: s162 :: s163 :: s164 :: s165 :: s166 :: s167 :: s168 :: s169 :: s170 :: s171 :: s172 :: s173 :: s174 :: s175 :: s176 :: s177 :: s178 :: s179 :: s180 :: s181 :: s182 :: s183 :: s184 :: s185 :: s186 :: s187 :: s188 :: s189 :: s190 :: s191 :: s192 :: s193 :: s194 :: s195 :: s196 :: s197 :: s198 :: s199 :: s200 :: s201 :: s202 :: s203 :: s204 :: s205 :: s206 :: s207 :: s208 :: s209 :: s210 :: s211 :: s212 :: s213 :: s214 :: s215 :: s216 :: s217 :: s218 :: s219 :: []), []⟩ w') :
    Code.wp Try.prog c Q ⟨List.toArray (s0 :: .slice (some ⟨sb, so, none⟩) n cap :: s2 :: s3 :: s4 :: .pointer (some ⟨b1, 0, none⟩) :: s6 :: s7 :: s8 :: s9 :: s10 :: s11 :: s12 :: s13 :: s14 :: s15 :: s16 :: s17 :: s18 :: s19 :: s20 :: s21 :: s22 :: s23 :: s24 :: s25 :: .int .i64 0 :: s27 :: s28 :: s29 :: s30 :: s31 :: s32 :: s33 :: s34 :: s35 :: s36 :: s37 :: s38 :: s39 :: s40 :: s41 :: s42 :: s43 :: s44 :: s45 :: s46 :: s47 :: s48 :: s49 :: s50 :: s51 :: s52 :: s53 :: s54 :: s55 :: s56 :: s57 :: s58 :: s59 :: s60 :: s61 :: s62 :: s63 :: s64 :: s65 :: s66 :: s67 :: s68 :: s69 :: s70 :: s71 :: s72 :: s73 :: s74 :: s75 :: s76 :: s77 :: s78 :: s79 :: s80 :: s81 :: s82 :: s83 :: s84 :: s85 :: s86 :: s87 :: s88 :: s89 :: s90 :: s91 :: s92 :: s93 :: s94 :: s95 :: s96 :: s97 :: s98 :: s99 :: s100 :: s101 :: s102 :: s103 :: s104 :: s105 :: s106 :: s107 :: s108 :: s109 :: s110 :: s111 :: s112 :: s113 :: s114 :: s115 :: s116 :: s117 :: s118 :: s119 :: s120 :: s121 :: s122 :: s123 :: s124 :: s125 :: s126 :: s127 :: s128 :: s129 :: s130 :: s131 :: s132 :: s133 :: s134 :: s135 :: s136 :: s137 :: s138 :: s139 :: s140 :: s141 :: s142 :: s143 :: s144 :: s145 :: s146 :: s147 :: s148 :: s149 :: s150 :: s151 :: s152 :: s153 :: s154 :: s155 :: s156 :: s157 :: s158 :: s159 :: s160 :: s161 :: s162 :: s163 :: s164 :: s165 :: s166 :: s167 :: s168 :: s169 :: s170 :: s171 :: s172 :: s173 :: s174 :: s175 :: s176 :: s177 :: s178 :: s179 :: s180 :: s181 :: s182 :: s183 :: s184 :: s185 :: s186 :: s187 :: s188 :: s189 :: s190 :: s191 :: s192 :: s193 :: s194 :: s195 :: s196 :: s197 :: s198 :: s199 :: s200 :: s201 :: s202 :: s203 :: s204 :: s205 :: s206 :: s207 :: s208 :: s209 :: s210 :: s211 :: s212 :: s213 :: s214 :: s215 :: s216 :: s217 :: s218 :: s219 :: []), []⟩ w := by
  subst hc
  conv => arg 2; whnf
  go_loopw [26] (fun v26 wr => ∃ i : Nat, i ≤ 16 ∧ v26 = .int .i64 i ∧ ∃ xs : List Int, xs.length = 64 ∧ xs.take i = words bk 0 i ∧ Own w0 wr ((b1, u32s xs, 62) :: L)) (fun v26 _ => 16 - (intOf v26).toNat)
  case atStart => exact ⟨0, by omega, rfl, xs, hxs, by simp [words], H⟩
  case round =>
    clear H
    obtain ⟨i, hi, rfl, xs, hxs, htk, H⟩ := hrel
    by_cases hlt : i < 16
    · have hc : ∀ m j, j < 64 → (wr.drewN m).cell? ⟨sb, so + j, none⟩ = some (.int .u8 (bk[j]?.getD 0)) := fun m j hj => hsrc wr xs H j (by omega)
      go_wp2_with fail
      refine region_drew 35 (by kernel_rfl) (by kernel_rfl) (by kernel_rfl) ?_
      simp only [List.take_succ_cons, List.take_zero, List.drop_succ_cons, List.drop_zero]
      repeat (first
        | (refine qd_val rfl (fun m => rn_cell rfl rfl rfl rfl (hc m _ (by omega))) ?_; go_frame)
        | go_big_quiet_step (fail))
      refine wpQuiet_nil ?_
      rintro w' ⟨m, rfl⟩
      have H' := H.drewN m
      clear H
      go_wp2_with (refine st_skip rfl (rn_storeI H' rfl rfl rfl rfl .head (by omega)) ?_; clear H'; intro w2 H)
      refine ⟨⟨i + 1, by omega, by go_num, _, by simpa using hxs, ?_, H⟩, by simp [intOf]; omega⟩
      rw [take_set htk (by omega)]
      simp only [words, Nat.zero_add]
      rfl
    · have h16 : i = 16 := by omega
      go_wp2_with fail
      subst h16
      exact hQ _ _ _ _ _ _ _ _ _ _ _ _ _ _ _ _ _ _ _ _ _ _ _ _ _ _ _ _ _ _ _ _ _ _ _ _ _ _ _ _ _ _ hxs htk H

set_option maxRecDepth 100000 in
set_option maxHeartbeats 1000000 in
theorem blk_sched (w0 w : World) (b1 : Nat) (ms : List Int) (xs : List Int) (L : List Ent) (hxs : xs.length = 64) (h16 : xs.take 16 = ms)
    (H : Own w0 w ((b1, u32s xs, 62) :: L))
    (Q : Exit → Act → World → Prop) (c : Code) (hc : blkCode [1, 1, 0, 0, 1, 0, 0, 1, 0, 1, 0] = c) {s0 s1 s2 s3 s4 s6 s8 s9 s10 s11 s12 s13 s14 s15 s16 s17 s18 s19 s20 s21 s22 s23 s24 s25 s26 s27 s28 s29 s30 s31 s32 s33 s34 s35 s36 s37 s38 s39 s40 s41 s42 s43 s44 s45 s46 s47 s48 s49 s50 s51 s52 s53 s54 s55 s56 s57 s58 s59 s60 s61 s62 s63 s64 s65 s66 s67 s68 s69 s70 s71 s72 s73 s74 s75 s76 s77 s78 s79 s80 s81 s82 s83 s84 s85 s86 s87 s88 s89 s90 s91 s92 s93 s94 s95 s96 s97 s98 s99 s100 s101 s102 s103 s104 s105 s106 s107 s108 s109 s110 s111 s112 s113 s114 s115 s116 s117 s118 s119 s120 s121 s122 s123 s124 s125 s126 s127 s128 s129 s130 s131 s132 s133 s134 s135 s136 s137 s138 s139 s140 s141 s142 s143 s144 s145 s146 s147 s148 s149 s150 s151 s152 s153 s154 s155 s156 s157 s158 s159 s160 s161 s162 s163 s164 s165 s166 s167 s168 s169 s170 s171 s172 s173 s174 s175 s176 s177 s178 s179 s180 s181 s182 s183 s184 s185 s186 s187 s188 s189 s190 s191 s192 s193 s194 s195 s196 s197 s198 s199 s200 s201 s202 s203 s204 s205 s206 s207 s208 s209 s210 s211 s212 s213 s214 s215 s216 s217 s218 s219 : Value}
    (hQ : ∀ (t7 t8 t9 t10 t11 t65 t66 t67 t68 t69 t70 t71 t72 t73 t74 t75 t76 t77 t78 t79 t80 t81 t82 t83 t84 t85 t86 t87 t88 t89 t90 t91 t92 t93 t94 t95 t96 t97 t98 t99 t100 t101 t102 t103 t104 t105 t106 t107 : Value) (w' : World), (sched ms 48).length = 64 → Own w0 w' ((b1, u32s (sched ms 48), 62) :: L) → Q (.exit 4) ⟨List.toArray (s0 :: s1 :: s2 :: s3 :: s4 :: .pointer (some ⟨b1, 0, none⟩) :: s6 :: t7 :: t8 :: t9 :: t10 :: t11 :: s12 :: s13 :: s14 :: s15 :: s16 :: s17 :: s18 :: s19 :: s20 :: s21 :: s22 :: s23 :: s24 :: s25 :: s26 :: s27 :: s28 :: s29 :: s30 :: s31 :: s32 :: s33 :: s34 :: s35 :: s36 :: s37 :: s38 :: s39 :: s40 :: s41 :: s42 :: s43 :: s44 :: s45 :: s46 :: s47 :: s48 :: s49 :: s50 :: s51 :: s52 :: s53 :: s54 :: s55 :: s56 :: s57 :: s58 :: s59 :: s60 :: s61 :: s62 :: s63 :: s64 :: t65 :: t66 :: t67 :: t68 :: t69 :: t70 :: t71 :: t72 :: t73 :: t74 :: t75 :: t76 :: t77 :: t78 :: t79 :: t80 :: t81 :: t82 :: t83 :: t84 :: t85 :: t86 :: t87 :: t88 :: t89 :: t90 :: t91 :: t92 :: t93 :: t94 :: t95 :: t96 :: t97 :: t98 :: t99 :: t100 :: t101 :: t102 :: t103 :: t104 :: t105 :: t106 :: t107 :: s108 :: s109 :: s110 :: s111 :: s112 :: s113 :: s114 :: s115 :: s116 :: s117 :: s118 :: s119 :: s120 :: s121 :: s122 :: s123 :: s124 :: s125 :: s126 :: s127 :: s128 :: s129 :: s130 :: s131 :: s132 :: s133 :: s134 :: s135 :: s136 :: s137 :: s138 :: s139 :: s140 :: s141 :: s142 :: s143 :: s144 :: s145 :: s146 :: s147 :: s148 :: s149 :: s150 :: s151 :: s152 :: s153 :: s154 :: s155 :: s156 :: s157 :: s158 :: s159 :: s160 :: s161 :: s162 :: s163 :: s164 :: s165 :: s166 :: s167 :: s168 :: s169 :: s170 :: s171 :: s172 :: s173 :: s174 :: s175 :: s176 :: s177 :: s178 :: s179 :: s180 :: s181 :: s182 :: s183 :: s184 :: s185 :: s186 :: s187 :: s188 :: s189 :: s190 :: s191 :: s192 :: s193 :: s194 :: s195 :: s196 :: s197 :: s198 :: s199 :: s200 :: s201 :: s202 :: s203 :: s204 :: s205 :: s206 :: s207 :: s208 :: s209 :: s210 :: s211 :: s212 :: s213 :: s214 :: s215 :: s216 :: s217 :: s218 :: s219 :: []), []⟩ w') :
    Code.wp Try.prog c Q ⟨List.toArray (s0 :: s1 :: s2 :: s3 :: s4 :: .pointer (some ⟨b1, 0, none⟩) :: s6 :: .int .i64 16 :: s8 :: s9 :: s10 :: s11 :: s12 :: s13 :: s14 :: s15 :: s16 :: s17 :: s18 :: s19 :: s20 :: s21 :: s22 :: s23 :: s24 :: s25 :: s26 :: s27 :: s28 :: s29 :: s30 :: s31 :: s32 :: s33 :: s34 :: s35 :: s36 :: s37 :: s38 :: s39 :: s40 :: s41 :: s42 :: s43 :: s44 :: s45 :: s46 :: s47 :: s48 :: s49 :: s50 :: s51 :: s52 :: s53 :: s54 :: s55 :: s56 :: s57 :: s58 :: s59 :: s60 :: s61 :: s62 :: s63 :: s64 :: s65 :: s66 :: s67 :: s68 :: s69 :: s70 :: s71 :: s72 :: s73 :: s74 :: s75 :: s76 :: s77 :: s78 :: s79 :: s80 :: s81 :: s82 :: s83 :: s84 :: s85 :: s86 :: s87 :: s88 :: s89 :: s90 :: s91 :: s92 :: s93 :: s94 :: s95 :: s96 :: s97 :: s98 :: s99 :: s100 :: s101 :: s102 :: s103 :: s104 :: s105 :: s106 :: s107 :: s108 :: s109 :: s110 :: s111 :: s112 :: s113 :: s114 :: s115 :: s116 :: s117 :: s118 :: s119 :: s120 :: s121 :: s122 :: s123 :: s124 :: s125 :: s126 :: s127 :: s128 :: s129 :: s130 :: s131 :: s132 :: s133 :: s134 :: s135 :: s136 :: s137 :: s138 :: s139 :: s140 :: s141 :: s142 :: s143 :: s144 :: s145 :: s146 :: s147 :: s148 :: s149 :: s150 :: s151 :: s152 :: s153 :: s154 :: s155 :: s156 :: s157 :: s158 :: s159 :: s160 :: s161 :: s162 :: s163 :: s164 :: s165 :: s166 :: s167 :: s168 :: s169 :: s170 :: s171 :: s172 :: s173 :: s174 :: s175 :: s176 :: s177 :: s178 :: s179 :: s180 :: s181 :: s182 :: s183 :: s184 :: s185 :: s186 :: s187 :: s188 :: s189 :: s190 :: s191 :: s192 :: s193 :: s194 :: s195 :: s196 :: s197 :: s198 :: s199 :: s200 :: s201 :: s202 :: s203 :: s204 :: s205 :: s206 :: s207 :: s208 :: s209 :: s210 :: s211 :: s212 :: s213 :: s214 :: s215 :: s216 :: s217 :: s218 :: s219 :: []), []⟩ w := by
  subst hc
  conv => arg 2; whnf
  go_loopw [7] (fun v7 wr => ∃ i : Nat, 16 ≤ i ∧ i ≤ 64 ∧ v7 = .int .i64 i ∧ ∃ xs : List Int, xs.length = 64 ∧ xs.take i = sched ms (i - 16) ∧ Own w0 wr ((b1, u32s xs, 62) :: L)) (fun v7 _ => 64 - (intOf v7).toNat)
  case atStart => exact ⟨16, by omega, by omega, rfl, xs, hxs, h16, H⟩
  case round =>
    clear H
    obtain ⟨i, hi0, hi, rfl, xs, hxs, htk, H⟩ := hrel
    by_cases hlt : i < 64
    · go_wp2_with fail
      refine region_drew 10 (by kernel_rfl) (by kernel_rfl) (by kernel_rfl) ?_
      simp only [List.take_succ_cons, List.take_nil, List.drop_succ_cons, List.drop_nil]
      repeat (first
        | (refine qd_val rfl (fun m => rn_loadI (H.drewN m) rfl rfl (.head _) rfl rfl (by omega)) ?_; go_frame)
        | go_big_quiet_step (fail))
      refine wpQuiet_nil ?_
      rintro w' hw'
      have H' := H
      clear H
      have H := (show Own w0 w' _ by obtain ⟨m, rfl⟩ := hw'; exact H'.drewN m)
      clear H' hw'
      go_wp2_with (go_at_call 36; (first | (with_reducible refine (rot7 _ _).mono ?_) | (with_reducible refine (rot18 _ _).mono ?_) | (with_reducible refine (rot17 _ _).mono ?_) | (with_reducible refine (rot19 _ _).mono ?_) | (with_reducible refine (rot6 _ _).mono ?_) | (with_reducible refine (rot11 _ _).mono ?_) | (with_reducible refine (rot25 _ _).mono ?_) | (with_reducible refine (rot2 _ _).mono ?_) | (with_reducible refine (rot13 _ _).mono ?_) | (with_reducible refine (rot22 _ _).mono ?_)); rintro e w' ⟨rfl, rfl⟩)
      refine region_drew 15 (by kernel_rfl) (by kernel_rfl) (by kernel_rfl) ?_
      simp only [List.take_succ_cons, List.take_zero, List.drop_succ_cons, List.drop_zero]
      repeat (first
        | (refine qd_val rfl (fun m => rn_loadI (H.drewN m) rfl rfl (.head _) rfl rfl (by omega)) ?_; go_frame)
        | go_big_quiet_step (fail))
      refine wpQuiet_nil ?_
      rintro w' hw'
      have H' := H
      clear H
      have H := (show Own w0 w' _ by obtain ⟨m, rfl⟩ := hw'; exact H'.drewN m)
      clear H' hw'
      go_wp2_with (refine st_skip rfl (rn_storeI H rfl rfl rfl rfl .head (by omega)) ?_; clear H; intro w2 H)
      refine ⟨⟨i + 1, by omega, by omega, by go_num, _, by simpa using hxs, ?_, H⟩, by simp [intOf]; omega⟩
      rw [take_set htk (by omega), show i + 1 - 16 = (i - 16) + 1 by omega, sched, show 16 + (i - 16) = i by omega]
      rw [getD_take htk (show i - 16 < i by omega), getD_take htk (show i - 15 < i by omega), getD_take htk (show i - 7 < i by omega), getD_take htk (show i - 2 < i by omega)]
      simp only [nextW, w32, sig0, sig1, xor32, Int.emod_add_emod]
    · have h64 : i = 64 := by omega
      go_wp2_with fail
      subst h64
      rw [List.take_of_length_le (by omega)] at htk
      rw [show sched ms 48 = xs from htk.symm] at hQ
      exact hQ _ _ _ _ _ _ _ _ _ _ _ _ _ _ _ _ _ _ _ _ _ _ _ _ _ _ _ _ _ _ _ _ _ _ _ _ _ _ _ _ _ _ _ _ _ _ _ _ _ hxs H

end Go.Proofs.Ytjcnhpnadfhjaaa
