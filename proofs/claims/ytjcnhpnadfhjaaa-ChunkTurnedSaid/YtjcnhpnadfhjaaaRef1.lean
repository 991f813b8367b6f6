/- The reference's block: its text computes 'comp' (the first three loops). Printed by a program of this work (wip/gen/refblk.py). -/
import Derived.Test.YtjcnhpnadfhjaaaSha4
namespace Go.Proofs.Ytjcnhpnadfhjaaa
open Go.RowKit

noncomputable def refCode (p : List Nat) : Code := codeAt (Try.f27.body.getD .skip) p

theorem or32_comm (a b : Int) : bits .or .u32 a b = bits .or .u32 b a := by
  show IntKind.u32.wrap _ = IntKind.u32.wrap _
  rw [BitVec.or_comm]

set_option maxRecDepth 100000 in
set_option maxHeartbeats 400000 in
theorem turn_any (x : Int) (n : Nat) (h1 : 1 ≤ n) (h2 : n < 32) (w : World) :
    Calls Try.prog 31 #[.int .u32 x, .int .u64 n] w fun e w' => e = .returned (.int .u32 (rotr x n)) ∧ w = w' := by
  have hn : IntKind.u64.wrap (32 - (n : Int)) = ((32 - n : Nat) : Int) := by rw [IntKind.wrap_u64]; omega
  go_enter Try.func31, Try.ntmps31
  go_wp2
  go_ret
  refine ⟨?_, rfl⟩
  rw [rotr, or32, or32_comm]
  rfl
theorem turnk (x k : Int) (h1 : 1 ≤ k) (h2 : k < 32) (w : World) : Calls Try.prog 31 #[.int .u32 x, .int .u64 k] w fun e w' => e = .returned (.int .u32 (rotr x k.toNat)) ∧ w' = w := by
  obtain ⟨n, rfl⟩ : ∃ n : Nat, k = n := ⟨k.toNat, by omega⟩
  exact (turn_any x n (by omega) (by omega) w).mono fun _ _ h => ⟨h.1, h.2.symm⟩

set_option maxRecDepth 100000 in
set_option maxHeartbeats 1000000 in
theorem ref_words (w0 w : World) (sb so n cap b1 p : Nat) (bk : List Int) (xs : List Int) (L : List Ent) (hxs : xs.length = 64) (hn : p + 64 ≤ n) (hn2 : n ≤ 140737488351232)
    (H : Own w0 w ((b1, u32s xs, 62) :: L))
    (hsrc : ∀ w' xs', Own w0 w' ((b1, u32s xs', 62) :: L) → ∀ i, i < n → w'.cell? ⟨sb, so + i, none⟩ = some (.int .u8 (bk[i]?.getD 0)))
    (Q : Exit → Act → World → Prop) (c : Code) (hc : refCode [1, 1, 1, 0, 1, 0] = c) {s0 s3 s4 s5 s6 s7 s10 s11 s12 s13 s14 s15 s16 s17 s18 s19 s20 s21 s22 s23 s24 s25 s26 s27 s28 s29 s30 s31 s32 s33 s34 s35 s36 s37 s38 s39 s40 s41 s42 s43 s44 s45 s46 s47 s48 s49 s50 s51 s52 s53 s54 s55 s56 s57 s58 s59 s60 s61 s62 s63 s64 s65 s66 s67 s68 s69 s70 s71 s72 s73 s74 s75 s76 s77 s78 s79 s80 s81 s82 s83 s84 s85 s86 s87 s88 s89 s90 s91 s92 s93 s94 s95 s96 s97 s98 s99 s100 s101 s102 s103 s104 s105 s106 s107 s108 s109 s110 s111 s112 s113 s114 s115 s116 s117 s118 s119 s120 s121 s122 s123 s124 s125 s126 s127 s128 s129 s130 s131 s132 s133 s134 s135 s136 s137 s138 s139 s140 s141 s142 s143 s144 s145 s146 s147 s148 s149 s150 s151 s152 s153 s154 s155 s156 s157 s158 s159 s160 s161 s162 s163 s164 s165 s166 s167 s168 s169 s170 s171 s172 s173 s174 s175 s176 s177 s178 s179 s180 s181 s182 s183 s184 s185 s186 s187 s188 s189 s190 s191 s192 s193 s194 s195 s196 s197 s198 s199 s200 s201 s202 s203 : Value}
    (hQ : ∀ (t9 t21 t22 t23 t24 t25 t26 t27 t28 t29 t30 t31 t32 t33 t34 t35 t36 t37 t38 t39 t40 t41 t42 t43 t44 t45 t46 t47 t48 t49 t50 t51 t52 t53 t54 t55 t56 t57 t58 t59 t60 t61 t62 t63 t64 t65 t66 t67 : Value) (w' : World) (xs' : List Int), xs'.length = 64 → xs'.take 16 = words bk p 16 → Own w0 w' ((b1, u32s xs', 62) :: L) → Q (.exit 0) ⟨List.toArray (s0 :: .slice (some ⟨sb, so, none⟩) n cap :: .int .i64 p :: s3 :: s4 :: s5 :: s6 :: s7 :: .pointer (some ⟨b1, 0, none⟩) :: t9 :: s10 :: s11 :: s12 :: s13 :: s14 :: s15 :: s16 :: s17 :: s18 :: s19 :: s20 :: t21 :: t22 :: t23 :: t24 :: t25 :: t26 :: t27 :: t28 :: t29 :: t30 :: t31 :: t32 :: t33 :: t34 :: t35 :: t36 :: t37 :: t38 :: t39 :: t40 :: t41 :: t42 :: t43 :: t44 :: t45 :: t46 :: t47 :: t48 :: t49 :: t50 :: t51 :: t52 :: t53 :: t54 :: t55 :: t56 :: t57 :: t58 :: t59 :: t60 :: t61 :: t62 :: t63 :: t64 :: t65 :: t66 :: t67 :: s68 :: s69 :: s70 :: s71 :: s72 :: s73 :: s74 :: s75 :: s76 :: s77 :: s78 :: s79 :: s80 :: s81 :: s82 :: s83 :: s84 :: s85 :: s86 :: s87 :: s88 :: s89 :: s90 :: s91 :: s92 :: s93 :: s94 :: s95 :: s96 :: s97 :: s98 :: s99 :: s100 :: s101 :: s102 :: s103 :: s104 :: s105 :: s106 :: s107 :: s108 :: s109 :: s110 :: s111 :: s112 :: s113 :: s114 :: s115 :: s116 :: s117 :: s118 :: s119 :: s120 :: s121 :: s122 :: s123 :: s124 :: s125 :: s126 :: s127 :: s128 :: s129 :: s130 :: s131 :: s132 :: s133 :: s134 :: s135 :: s136 :: s137 :: s138 :: s139 :: s140 :: s141 :: s142 :: s143 :: s144 :: s145 :: s146 :: s147 :: s148 :: s149 :: s150 :: s151 :: s152 :: s153 :: s154 :: s155 :: s156 :: s157 :: s158 :: s159 :: s160 :: s161 :: s162 :: s163 :: s164 :: s165 :: s166 :: s167 :: s168 :: s169 :: s170 :: s171 :: s172 :: s173 :: s174 :: s175 :: s176 :: s177 :: s178 :: s179 :: s180 :: s181 :: s182 :: s183 :: s184 :: s185 :: s186 :: s187 :: s188 :: s189 :: s190 :: s191 :: s192 :: s193 :: s194 :: s195 :: s196 :: s197 :: s198 :: s199 :: s200 :: s201 :: s202 :: s203 :: []), []⟩ w') :
    Code.wp Try.prog c Q ⟨List.toArray (s0 :: .slice (some ⟨sb, so, none⟩) n cap :: .int .i64 p :: s3 :: s4 :: s5 :: s6 :: s7 :: .pointer (some ⟨b1, 0, none⟩) :: .int .i64 0 :: s10 :: s11 :: s12 :: s13 :: s14 :: s15 :: s16 :: s17 :: s18 :: s19 :: s20 :: s21 :: s22 :: s23 :: s24 :: s25 :: s26 :: s27 :: s28 :: s29 :: s30 :: s31 :: s32 :: s33 :: s34 :: s35 :: s36 :: s37 :: s38 :: s39 :: s40 :: s41 :: s42 :: s43 :: s44 :: s45 :: s46 :: s47 :: s48 :: s49 :: s50 :: s51 :: s52 :: s53 :: s54 :: s55 :: s56 :: s57 :: s58 :: s59 :: s60 :: s61 :: s62 :: s63 :: s64 :: s65 :: s66 :: s67 :: s68 :: s69 :: s70 :: s71 :: s72 :: s73 :: s74 :: s75 :: s76 :: s77 :: s78 :: s79 :: s80 :: s81 :: s82 :: s83 :: s84 :: s85 :: s86 :: s87 :: s88 :: s89 :: s90 :: s91 :: s92 :: s93 :: s94 :: s95 :: s96 :: s97 :: s98 :: s99 :: s100 :: s101 :: s102 :: s103 :: s104 :: s105 :: s106 :: s107 :: s108 :: s109 :: s110 :: s111 :: s112 :: s113 :: s114 :: s115 :: s116 :: s117 :: s118 :: s119 :: s120 :: s121 :: s122 :: s123 :: s124 :: s125 :: s126 :: s127 :: s128 :: s129 :: s130 :: s131 :: s132 :: s133 :: s134 :: s135 :: s136 :: s137 :: s138 :: s139 :: s140 :: s141 :: s142 :: s143 :: s144 :: s145 :: s146 :: s147 :: s148 :: s149 :: s150 :: s151 :: s152 :: s153 :: s154 :: s155 :: s156 :: s157 :: s158 :: s159 :: s160 :: s161 :: s162 :: s163 :: s164 :: s165 :: s166 :: s167 :: s168 :: s169 :: s170 :: s171 :: s172 :: s173 :: s174 :: s175 :: s176 :: s177 :: s178 :: s179 :: s180 :: s181 :: s182 :: s183 :: s184 :: s185 :: s186 :: s187 :: s188 :: s189 :: s190 :: s191 :: s192 :: s193 :: s194 :: s195 :: s196 :: s197 :: s198 :: s199 :: s200 :: s201 :: s202 :: s203 :: []), []⟩ w := by
  subst hc
  conv => arg 2; whnf
  go_loopw [9] (fun v9 wr => ∃ i : Nat, i ≤ 16 ∧ v9 = .int .i64 i ∧ ∃ xs : List Int, xs.length = 64 ∧ xs.take i = words bk p i ∧ Own w0 wr ((b1, u32s xs, 62) :: L)) (fun v9 _ => 16 - (intOf v9).toNat)
  case atStart => exact ⟨0, by omega, rfl, xs, hxs, by simp [words], H⟩
  case round =>
    clear H
    obtain ⟨i, hi, rfl, xs, hxs, htk, H⟩ := hrel
    by_cases hlt : i < 16
    · have hc : ∀ m q, q < n → (wr.drewN m).cell? ⟨sb, so + q, none⟩ = some (.int .u8 (bk[q]?.getD 0)) := fun m q hq => hsrc wr xs H q hq
      go_wp2_with fail
      refine region_drew 43 (by kernel_rfl) (by kernel_rfl) (by kernel_rfl) ?_
      simp only [List.take_succ_cons, List.take_zero, List.drop_succ_cons, List.drop_zero]
      repeat (first
        | (refine qd_val rfl (fun m => rn_cell rfl rfl rfl rfl (hc m _ (by omega))) ?_; go_frame)
        | go_big_quiet_step (fail))
      refine wpQuiet_nil ?_
      rintro w' hw'
      have H' := H
      clear H
      have H := (show Own w0 w' _ by obtain ⟨m, rfl⟩ := hw'; exact H'.drewN m)
      clear H' hw'
      go_wp2_with (refine st_skip rfl (rn_storeI H rfl rfl rfl rfl .head (by omega)) ?_; clear H; intro w2 H)
      refine ⟨⟨i + 1, by omega, by go_num, _, by simpa using hxs, ?_, H⟩, by simp [intOf]; omega⟩
      rw [take_set htk (by omega)]
      simp only [words]
      rfl
    · have h16 : i = 16 := by omega
      go_wp2_with fail
      subst h16
      exact hQ _ _ _ _ _ _ _ _ _ _ _ _ _ _ _ _ _ _ _ _ _ _ _ _ _ _ _ _ _ _ _ _ _ _ _ _ _ _ _ _ _ _ _ _ _ _ _ _ _ _ hxs htk H
end Go.Proofs.Ytjcnhpnadfhjaaa
