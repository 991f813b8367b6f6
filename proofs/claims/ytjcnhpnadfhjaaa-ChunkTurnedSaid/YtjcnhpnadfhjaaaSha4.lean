/- sha's block, the whole. Printed by a program of this work (wip/gen/blk.py). -/
import Derived.Test.YtjcnhpnadfhjaaaSha3
namespace Go.Proofs.Ytjcnhpnadfhjaaa
open Go.RowKit

/-- the first i words of a state have been added to -/
def addN (s t : St) (i : Nat) : List Int :=
  [if 0 < i then w32 (s.a + t.a) else s.a, if 1 < i then w32 (s.b + t.b) else s.b, if 2 < i then w32 (s.c + t.c) else s.c, if 3 < i then w32 (s.d + t.d) else s.d,
   if 4 < i then w32 (s.e + t.e) else s.e, if 5 < i then w32 (s.f + t.f) else s.f, if 6 < i then w32 (s.g + t.g) else s.g, if 7 < i then w32 (s.h + t.h) else s.h]

theorem length_addN (s t : St) (i : Nat) : (addN s t i).length = 8 := rfl
theorem length_l (s : St) : s.l.length = 8 := rfl
theorem addN_step (s t : St) (i : Nat) (h : i < 8) : (addN s t i).set i (((addN s t i)[i]?.getD 0 + t.l[i]?.getD 0) % 4294967296) = addN s t (i + 1) := by
  obtain rfl | rfl | rfl | rfl | rfl | rfl | rfl | rfl : i = 0 ∨ i = 1 ∨ i = 2 ∨ i = 3 ∨ i = 4 ∨ i = 5 ∨ i = 6 ∨ i = 7 := by omega
  all_goals rfl

set_option maxRecDepth 100000 in
set_option maxHeartbeats 1000000 in
theorem blk_add (w0 w : World) (d b0 b1 b2 : Nat) (T : TypeId) (ss tt : St) (ws : List Int) (rest : List Value)
    (H : Own w0 w [(b2, u32s tt.l, 56), (b1, u32s ws, 62), (b0, u32s shaK, 62), (d, u32s ss.l ++ rest, T)])
    (Q : Exit → Act → World → Prop) (c : Code) (hc : blkCode [1, 1, 0, 0, 1, 0, 0, 1, 1, 1, 1, 1, 0] = c) {s1 s2 s3 s4 s5 s6 s7 s8 s9 s10 s11 s13 s14 s15 s16 s17 s18 s19 s20 s21 s22 s23 s24 s25 s26 s27 s28 s29 s30 s31 s32 s33 s34 s35 s36 s37 s38 s39 s40 s41 s42 s43 s44 s45 s46 s47 s48 s49 s50 s51 s52 s53 s54 s55 s56 s57 s58 s59 s60 s61 s62 s63 s64 s65 s66 s67 s68 s69 s70 s71 s72 s73 s74 s75 s76 s77 s78 s79 s80 s81 s82 s83 s84 s85 s86 s87 s88 s89 s90 s91 s92 s93 s94 s95 s96 s97 s98 s99 s100 s101 s102 s103 s104 s105 s106 s107 s108 s109 s110 s111 s112 s113 s114 s115 s116 s117 s118 s119 s120 s121 s122 s123 s124 s125 s126 s127 s128 s129 s130 s131 s132 s133 s134 s135 s136 s137 s138 s139 s140 s141 s142 s143 s144 s145 s146 s147 s148 s149 s150 s151 s152 s153 s154 s155 s156 s157 s158 s159 s160 s161 s162 s163 s164 s165 s166 s167 s168 s169 s170 s171 s172 s173 s174 s175 s176 s177 s178 s179 s180 s181 s182 s183 s184 s185 s186 s187 s188 s189 s190 s191 s192 s193 s194 s195 s196 s197 s198 s199 s200 s201 s202 s204 s205 s206 s207 s208 s209 s210 s211 s212 s213 s214 s215 s216 s217 s218 s219 : Value}
    (hQ : ∀ (t19 t203 t204 t205 t206 t207 t208 t209 t210 t211 t212 t213 t214 t215 t216 t217 t218 t219 : Value) (w' : World), Own w0 w' [(b2, u32s tt.l, 56), (b1, u32s ws, 62), (b0, u32s shaK, 62), (d, u32s (ss.add tt).l ++ rest, T)] → Q (.exit 8) ⟨List.toArray (.pointer (some ⟨d, 0, none⟩) :: s1 :: s2 :: s3 :: s4 :: s5 :: s6 :: s7 :: s8 :: s9 :: s10 :: s11 :: .pointer (some ⟨b2, 0, none⟩) :: s13 :: s14 :: s15 :: s16 :: s17 :: s18 :: t19 :: s20 :: s21 :: s22 :: s23 :: s24 :: s25 :: s26 :: s27 :: s28 :: s29 :: s30 :: s31 :: s32 :: s33 :: s34 :: s35 :: s36 :: s37 :: s38 :: s39 :: s40 :: s41 :: s42 :: s43 :: s44 :: s45 :: s46 :: s47 :: s48 :: s49 :: s50 :: s51 :: s52 :: s53 :: s54 :: s55 :: s56 :: s57 :: s58 :: s59 :: s60 :: s61 :: s62 :: s63 :: s64 :: s65 :: s66 :: s67 :: s68 :: s69 :: s70 :: s71 :: s72 :: s73 :: s74 :: s75 :: s76 :: s77 :: s78 :: s79 :: s80 :: s81 :: s82 :: s83 :: s84 :: s85 :: s86 :: s87 :: s88 :: s89 :: s90 :: s91 :: s92 :: s93 :: s94 :: s95 :: s96 :: s97 :: s98 :: s99 :: s100 :: s101 :: s102 :: s103 :: s104 :: s105 :: s106 :: s107 :: s108 :: s109 :: s110 :: s111 :: s112 :: s113 :: s114 :: s115 :: s116 :: s117 :: s118 :: s119 :: s120 :: s121 :: s122 :: s123 :: s124 :: s125 :: s126 :: s127 :: s128 :: s129 :: s130 :: s131 :: s132 :: s133 :: s134 :: s135 :: s136 :: s137 :: s138 :: s139 :: s140 :: s141 :: s142 :: s143 :: s144 :: s145 :: s146 :: s147 :: s148 :: s149 :: s150 :: s151 :: s152 :: s153 :: s154 :: s155 :: s156 :: s157 :: s158 :: s159 :: s160 :: s161 :: s162 :: s163 :: s164 :: s165 :: s166 :: s167 :: s168 :: s169 :: s170 :: s171 :: s172 :: s173 :: s174 :: s175 :: s176 :: s177 :: s178 :: s179 :: s180 :: s181 :: s182 :: s183 :: s184 :: s185 :: s186 :: s187 :: s188 :: s189 :: s190 :: s191 :: s192 :: s193 :: s194 :: s195 :: s196 :: s197 :: s198 :: s199 :: s200 :: s201 :: s202 :: t203 :: t204 :: t205 :: t206 :: t207 :: t208 :: t209 :: t210 :: t211 :: t212 :: t213 :: t214 :: t215 :: t216 :: t217 :: t218 :: t219 :: []), []⟩ w') :
    Code.wp Try.prog c Q ⟨List.toArray (.pointer (some ⟨d, 0, none⟩) :: s1 :: s2 :: s3 :: s4 :: s5 :: s6 :: s7 :: s8 :: s9 :: s10 :: s11 :: .pointer (some ⟨b2, 0, none⟩) :: s13 :: s14 :: s15 :: s16 :: s17 :: s18 :: s19 :: s20 :: s21 :: s22 :: s23 :: s24 :: s25 :: s26 :: s27 :: s28 :: s29 :: s30 :: s31 :: s32 :: s33 :: s34 :: s35 :: s36 :: s37 :: s38 :: s39 :: s40 :: s41 :: s42 :: s43 :: s44 :: s45 :: s46 :: s47 :: s48 :: s49 :: s50 :: s51 :: s52 :: s53 :: s54 :: s55 :: s56 :: s57 :: s58 :: s59 :: s60 :: s61 :: s62 :: s63 :: s64 :: s65 :: s66 :: s67 :: s68 :: s69 :: s70 :: s71 :: s72 :: s73 :: s74 :: s75 :: s76 :: s77 :: s78 :: s79 :: s80 :: s81 :: s82 :: s83 :: s84 :: s85 :: s86 :: s87 :: s88 :: s89 :: s90 :: s91 :: s92 :: s93 :: s94 :: s95 :: s96 :: s97 :: s98 :: s99 :: s100 :: s101 :: s102 :: s103 :: s104 :: s105 :: s106 :: s107 :: s108 :: s109 :: s110 :: s111 :: s112 :: s113 :: s114 :: s115 :: s116 :: s117 :: s118 :: s119 :: s120 :: s121 :: s122 :: s123 :: s124 :: s125 :: s126 :: s127 :: s128 :: s129 :: s130 :: s131 :: s132 :: s133 :: s134 :: s135 :: s136 :: s137 :: s138 :: s139 :: s140 :: s141 :: s142 :: s143 :: s144 :: s145 :: s146 :: s147 :: s148 :: s149 :: s150 :: s151 :: s152 :: s153 :: s154 :: s155 :: s156 :: s157 :: s158 :: s159 :: s160 :: s161 :: s162 :: s163 :: s164 :: s165 :: s166 :: s167 :: s168 :: s169 :: s170 :: s171 :: s172 :: s173 :: s174 :: s175 :: s176 :: s177 :: s178 :: s179 :: s180 :: s181 :: s182 :: s183 :: s184 :: s185 :: s186 :: s187 :: s188 :: s189 :: s190 :: s191 :: s192 :: s193 :: s194 :: s195 :: s196 :: s197 :: s198 :: s199 :: s200 :: s201 :: s202 :: .int .i64 0 :: s204 :: s205 :: s206 :: s207 :: s208 :: s209 :: s210 :: s211 :: s212 :: s213 :: s214 :: s215 :: s216 :: s217 :: s218 :: s219 :: []), []⟩ w := by
  subst hc
  conv => arg 2; whnf
  go_loopw [203] (fun v wr => ∃ i : Nat, i ≤ 8 ∧ v = .int .i64 i ∧ Own w0 wr [(b2, u32s tt.l, 56), (b1, u32s ws, 62), (b0, u32s shaK, 62), (d, u32s (addN ss tt i) ++ rest, T)]) (fun v _ => 8 - (intOf v).toNat)
  case atStart => exact ⟨0, by omega, rfl, H⟩
  case round =>
    clear H
    obtain ⟨i, hi, rfl, H⟩ := hrel
    by_cases hlt : i < 8
    · have hstep := Lib.hid (addN_step ss tt i hlt)
      have ha := Lib.hid (length_addN ss tt i)
      have ht := Lib.hid (length_l tt)
      generalize addN ss tt i = xs at H hstep ha
      generalize tt.l = ys at H hstep ht
      go_wp2_with fail
      refine region_drew 13 (by kernel_rfl) (by kernel_rfl) (by kernel_rfl) ?_
      simp only [List.take_succ_cons, List.take_zero, List.drop_succ_cons, List.drop_zero]
      repeat (first
        | (refine qd_val rfl (fun m => rn_loadI (H.drewN m) rfl rfl (.head _) rfl rfl (by have := ht.out; omega)) ?_; go_frame)
        | (refine qd_val rfl (fun m => rn_loadIA (H.drewN m) rfl rfl (.tail _ (.tail _ (.tail _ (.head _)))) rfl rfl (by have := ha.out; omega)) ?_; go_frame)
        | go_big_quiet_step (fail))
      refine wpQuiet_nil ?_
      rintro w' hw'
      have H' := H
      clear H
      have H := (show Own w0 w' _ by obtain ⟨m, rfl⟩ := hw'; exact H'.drewN m)
      clear H' hw'
      go_wp2_with (refine st_skip rfl (rn_storeIA H rfl rfl rfl rfl (.tail (.tail (.tail .head))) (by have := ha.out; omega)) ?_; clear H; intro w2 H)
      refine ⟨⟨i + 1, by omega, by go_num, ?_⟩, by simp [intOf]; omega⟩
      rw [← hstep.out]
      exact H
    · have h8 : i = 8 := by omega
      go_wp2_with fail
      subst h8
      exact H

end Go.Proofs.Ytjcnhpnadfhjaaa
