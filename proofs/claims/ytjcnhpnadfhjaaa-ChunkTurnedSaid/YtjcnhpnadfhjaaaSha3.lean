/- sha's block, the rounds. Printed by a program of this work (wip/gen/blk.py). -/
import Derived.Test.YtjcnhpnadfhjaaaSha2
namespace Go.Proofs.Ytjcnhpnadfhjaaa
open Go.RowKit

theorem length_shaK : shaK.length = 64 := rfl

set_option maxRecDepth 100000 in
set_option maxHeartbeats 4000000 in
theorem blk_rounds (w0 w : World) (b0 b1 b2 : Nat) (s0' : St) (ws : List Int) (L : List Ent) (hws : ws.length = 64)
    (H : Own w0 w ((b2, u32s s0'.l, 56) :: (b1, u32s ws, 62) :: (b0, u32s shaK, 62) :: L))
    (Q : Exit → Act → World → Prop) (c : Code) (hc : blkCode [1, 1, 0, 0, 1, 0, 0, 1, 1, 1, 0, 1, 0] = c) {s0 s1 s2 s3 s6 s7 s8 s9 s10 s11 s13 s14 s15 s16 s17 s18 s19 s20 s21 s22 s23 s24 s25 s26 s27 s28 s29 s30 s31 s32 s33 s34 s35 s36 s37 s38 s39 s40 s41 s42 s43 s44 s45 s46 s47 s48 s49 s50 s51 s52 s53 s54 s55 s56 s57 s58 s59 s60 s61 s62 s63 s64 s65 s66 s67 s68 s69 s70 s71 s72 s73 s74 s75 s76 s77 s78 s79 s80 s81 s82 s83 s84 s85 s86 s87 s88 s89 s90 s91 s92 s93 s94 s95 s96 s97 s98 s99 s100 s101 s102 s103 s104 s105 s106 s107 s108 s109 s110 s111 s113 s114 s115 s116 s117 s118 s119 s120 s121 s122 s123 s124 s125 s126 s127 s128 s129 s130 s131 s132 s133 s134 s135 s136 s137 s138 s139 s140 s141 s142 s143 s144 s145 s146 s147 s148 s149 s150 s151 s152 s153 s154 s155 s156 s157 s158 s159 s160 s161 s162 s163 s164 s165 s166 s167 s168 s169 s170 s171 s172 s173 s174 s175 s176 s177 s178 s179 s180 s181 s182 s183 s184 s185 s186 s187 s188 s189 s190 s191 s192 s193 s194 s195 s196 s197 s198 s199 s200 s201 s202 s203 s204 s205 s206 s207 s208 s209 s210 s211 s212 s213 s214 s215 s216 s217 s218 s219 : Value}
    (hQ : ∀ (t13 t14 t15 t16 t17 t18 t112 t113 t114 t115 t116 t117 t118 t119 t120 t121 t122 t123 t124 t125 t126 t127 t128 t129 t130 t131 t132 t133 t134 t135 t136 t137 t138 t139 t140 t141 t142 t143 t144 t145 t146 t147 t148 t149 t150 t151 t152 t153 t154 t155 t156 t157 t158 t159 t160 t161 t162 t163 t164 t165 t166 t167 t168 t169 t170 t171 t172 t173 t174 t175 t176 t177 t178 t179 t180 t181 t182 t183 t184 t185 t186 t187 t188 t189 t190 t191 t192 t193 t194 t195 t196 t197 t198 t199 t200 t201 t202 : Value) (w' : World), Own w0 w' ((b2, u32s (rnds shaK ws s0' 64).l, 56) :: (b1, u32s ws, 62) :: (b0, u32s shaK, 62) :: L) → Q (.exit 6) ⟨List.toArray (s0 :: s1 :: s2 :: s3 :: .pointer (some ⟨b0, 0, none⟩) :: .pointer (some ⟨b1, 0, none⟩) :: s6 :: s7 :: s8 :: s9 :: s10 :: s11 :: .pointer (some ⟨b2, 0, none⟩) :: t13 :: t14 :: t15 :: t16 :: t17 :: t18 :: s19 :: s20 :: s21 :: s22 :: s23 :: s24 :: s25 :: s26 :: s27 :: s28 :: s29 :: s30 :: s31 :: s32 :: s33 :: s34 :: s35 :: s36 :: s37 :: s38 :: s39 :: s40 :: s41 :: s42 :: s43 :: s44 :: s45 :: s46 :: s47 :: s48 :: s49 :: s50 :: s51 :: s52 :: s53 :: s54 :: s55 :: s56 :: s57 :: s58 :: s59 :: s60 :: s61 :: s62 :: s63 :: s64 :: s65 :: s66 :: s67 :: s68 :: s69 :: s70 :: s71 :: s72 :: s73 :: s74 :: s75 :: s76 :: s77 :: s78 :: s79 :: s80 :: s81 :: s82 :: s83 :: s84 :: s85 :: s86 :: s87 :: s88 :: s89 :: s90 :: s91 :: s92 :: s93 :: s94 :: s95 :: s96 :: s97 :: s98 :: s99 :: s100 :: s101 :: s102 :: s103 :: s104 :: s105 :: s106 :: s107 :: s108 :: s109 :: s110 :: s111 :: t112 :: t113 :: t114 :: t115 :: t116 :: t117 :: t118 :: t119 :: t120 :: t121 :: t122 :: t123 :: t124 :: t125 :: t126 :: t127 :: t128 :: t129 :: t130 :: t131 :: t132 :: t133 :: t134 :: t135 :: t136 :: t137 :: t138 :: t139 :: t140 :: t141 :: t142 :: t143 :: t144 :: t145 :: t146 :: t147 :: t148 :: t149 :: t150 :: t151 :: t152 :: t153 :: t154 :: t155 :: t156 :: t157 :: t158 :: t159 :: t160 :: t161 :: t162 :: t163 :: t164 :: t165 :: t166 :: t167 :: t168 :: t169 :: t170 :: t171 :: t172 :: t173 :: t174 :: t175 :: t176 :: t177 :: t178 :: t179 :: t180 :: t181 :: t182 :: t183 :: t184 :: t185 :: t186 :: t187 :: t188 :: t189 :: t190 :: t191 :: t192 :: t193 :: t194 :: t195 :: t196 :: t197 :: t198 :: t199 :: t200 :: t201 :: t202 :: s203 :: s204 :: s205 :: s206 :: s207 :: s208 :: s209 :: s210 :: s211 :: s212 :: s213 :: s214 :: s215 :: s216 :: s217 :: s218 :: s219 :: []), []⟩ w') :
    Code.wp Try.prog c Q ⟨List.toArray (s0 :: s1 :: s2 :: s3 :: .pointer (some ⟨b0, 0, none⟩) :: .pointer (some ⟨b1, 0, none⟩) :: s6 :: s7 :: s8 :: s9 :: s10 :: s11 :: .pointer (some ⟨b2, 0, none⟩) :: s13 :: s14 :: s15 :: s16 :: s17 :: s18 :: s19 :: s20 :: s21 :: s22 :: s23 :: s24 :: s25 :: s26 :: s27 :: s28 :: s29 :: s30 :: s31 :: s32 :: s33 :: s34 :: s35 :: s36 :: s37 :: s38 :: s39 :: s40 :: s41 :: s42 :: s43 :: s44 :: s45 :: s46 :: s47 :: s48 :: s49 :: s50 :: s51 :: s52 :: s53 :: s54 :: s55 :: s56 :: s57 :: s58 :: s59 :: s60 :: s61 :: s62 :: s63 :: s64 :: s65 :: s66 :: s67 :: s68 :: s69 :: s70 :: s71 :: s72 :: s73 :: s74 :: s75 :: s76 :: s77 :: s78 :: s79 :: s80 :: s81 :: s82 :: s83 :: s84 :: s85 :: s86 :: s87 :: s88 :: s89 :: s90 :: s91 :: s92 :: s93 :: s94 :: s95 :: s96 :: s97 :: s98 :: s99 :: s100 :: s101 :: s102 :: s103 :: s104 :: s105 :: s106 :: s107 :: s108 :: s109 :: s110 :: s111 :: .int .i64 0 :: s113 :: s114 :: s115 :: s116 :: s117 :: s118 :: s119 :: s120 :: s121 :: s122 :: s123 :: s124 :: s125 :: s126 :: s127 :: s128 :: s129 :: s130 :: s131 :: s132 :: s133 :: s134 :: s135 :: s136 :: s137 :: s138 :: s139 :: s140 :: s141 :: s142 :: s143 :: s144 :: s145 :: s146 :: s147 :: s148 :: s149 :: s150 :: s151 :: s152 :: s153 :: s154 :: s155 :: s156 :: s157 :: s158 :: s159 :: s160 :: s161 :: s162 :: s163 :: s164 :: s165 :: s166 :: s167 :: s168 :: s169 :: s170 :: s171 :: s172 :: s173 :: s174 :: s175 :: s176 :: s177 :: s178 :: s179 :: s180 :: s181 :: s182 :: s183 :: s184 :: s185 :: s186 :: s187 :: s188 :: s189 :: s190 :: s191 :: s192 :: s193 :: s194 :: s195 :: s196 :: s197 :: s198 :: s199 :: s200 :: s201 :: s202 :: s203 :: s204 :: s205 :: s206 :: s207 :: s208 :: s209 :: s210 :: s211 :: s212 :: s213 :: s214 :: s215 :: s216 :: s217 :: s218 :: s219 :: []), []⟩ w := by
  subst hc
  conv => arg 2; whnf
  go_loopw [112] (fun v wr => ∃ i : Nat, i ≤ 64 ∧ v = .int .i64 i ∧ Own w0 wr ((b2, u32s (rnds shaK ws s0' i).l, 56) :: (b1, u32s ws, 62) :: (b0, u32s shaK, 62) :: L)) (fun v _ => 64 - (intOf v).toNat)
  case atStart => exact ⟨0, by omega, rfl, H⟩
  case round =>
    clear H
    obtain ⟨i, hi, rfl, H⟩ := hrel
    by_cases hlt : i < 64
    · have hnext : rnds shaK ws s0' (i + 1) = rnd (shaK[i]?.getD 0) (ws[i]?.getD 0) (rnds shaK ws s0' i) := rfl
      have hK := Lib.hid length_shaK
      have hW := Lib.hid hws
      clear hws
      have HN := Lib.hid hnext
      clear hnext
      generalize rnds shaK ws s0' i = sv at H HN
      obtain ⟨va, vb, vc, vd, ve, vf, vg, vh⟩ := sv
      go_wp2_with fail
      refine region_drew 6 (by kernel_rfl) (by kernel_rfl) (by kernel_rfl) ?_
      simp only [List.take_succ_cons, List.take_nil, List.drop_succ_cons, List.drop_nil]
      repeat (first
        | (refine qd_val rfl (fun m => rn_load (H.drewN m) rfl rfl (.head _) rfl rfl rfl) ?_; go_frame)
        | (refine qd_val rfl (fun m => rn_loadI (H.drewN m) rfl rfl (.tail _ (.head _)) rfl rfl (by have := hW.out; omega)) ?_; go_frame)
        | (refine qd_val rfl (fun m => rn_loadI (H.drewN m) rfl rfl (.tail _ (.tail _ (.head _))) rfl rfl (by have := hK.out; omega)) ?_; go_frame)
        | go_big_quiet_step (fail))
      refine wpQuiet_nil ?_
      rintro w' hw'
      have H' := H
      clear H
      have H := (show Own w0 w' _ by obtain ⟨m, rfl⟩ := hw'; exact H'.drewN m)
      clear H' hw'
      go_wp2_with (go_at_call 36; (first | (with_reducible refine (rot7 _ _).mono ?_) | (with_reducible refine (rot18 _ _).mono ?_) | (with_reducible refine (rot17 _ _).mono ?_) | (with_reducible refine (rot19 _ _).mono ?_) | (with_reducible refine (rot6 _ _).mono ?_) | (with_reducible refine (rot11 _ _).mono ?_) | (with_reducible refine (rot25 _ _).mono ?_) | (with_reducible refine (rot2 _ _).mono ?_) | (with_reducible refine (rot13 _ _).mono ?_) | (with_reducible refine (rot22 _ _).mono ?_)); rintro e w' ⟨rfl, rfl⟩)
      refine region_drew 24 (by kernel_rfl) (by kernel_rfl) (by kernel_rfl) ?_
      simp only [List.take_succ_cons, List.take_nil, List.drop_succ_cons, List.drop_nil]
      repeat (first
        | (refine qd_val rfl (fun m => rn_load (H.drewN m) rfl rfl (.head _) rfl rfl rfl) ?_; go_frame)
        | (refine qd_val rfl (fun m => rn_loadI (H.drewN m) rfl rfl (.tail _ (.head _)) rfl rfl (by have := hW.out; omega)) ?_; go_frame)
        | (refine qd_val rfl (fun m => rn_loadI (H.drewN m) rfl rfl (.tail _ (.tail _ (.head _))) rfl rfl (by have := hK.out; omega)) ?_; go_frame)
        | go_big_quiet_step (fail))
      refine wpQuiet_nil ?_
      rintro w' hw'
      have H' := H
      clear H
      have H := (show Own w0 w' _ by obtain ⟨m, rfl⟩ := hw'; exact H'.drewN m)
      clear H' hw'
      go_wp2_with (first
        | (go_at_call 36; (first | (with_reducible refine (rot7 _ _).mono ?_) | (with_reducible refine (rot18 _ _).mono ?_) | (with_reducible refine (rot17 _ _).mono ?_) | (with_reducible refine (rot19 _ _).mono ?_) | (with_reducible refine (rot6 _ _).mono ?_) | (with_reducible refine (rot11 _ _).mono ?_) | (with_reducible refine (rot25 _ _).mono ?_) | (with_reducible refine (rot2 _ _).mono ?_) | (with_reducible refine (rot13 _ _).mono ?_) | (with_reducible refine (rot22 _ _).mono ?_)); rintro e w' ⟨rfl, rfl⟩)
        | (refine st_val rfl (rn_load H rfl rfl (.head _) rfl rfl rfl) ?_)
        | (refine st_skip rfl (rn_storeI H rfl rfl rfl rfl .head (by simp [St.l])) ?_; clear H; intro w2 H))
      refine ⟨⟨i + 1, by omega, by go_num, ?_⟩, by simp [intOf]; omega⟩
      rw [HN.out]
      simp only [St.l, List.set_cons_succ, List.set_cons_zero] at H
      exact H
    · have h64 : i = 64 := by omega
      go_wp2_with fail
      subst h64
      exact H
end Go.Proofs.Ytjcnhpnadfhjaaa
