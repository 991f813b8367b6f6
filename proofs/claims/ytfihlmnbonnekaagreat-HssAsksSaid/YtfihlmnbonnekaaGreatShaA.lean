/- SHA-256 over lists of whole numbers, in the model's own words for 32 bits; what both texts compute. Nothing of the program here. And what stands on it. No condition. -/
import Derived.Laws.BitsAllLaws
import Derived.Test.YtfihlmnbonnekaaGreatRows
import Derived.Test.YtfihlmnbonnekaaGreatLow
import Derived.Maps.RangeWalk
import Derived.Lib.Hide
namespace Go.Proofs.YtfihlmnbonnekaaGreat
set_option maxHeartbeats 32000000
def w32 (n : Int) : Int := n % 4294967296
def xor32 (a b : Int) : Int := bits .xor .u32 a b
def and32 (a b : Int) : Int := bits .and .u32 a b
def or32 (a b : Int) : Int := bits .or .u32 a b
def not32 (a : Int) : Int := bits .xor .u32 IntKind.u32.max a
def rotr (x : Int) (n : Nat) : Int := or32 (w32 (x * 2 ^ (32 - n))) (x / 2 ^ n)
def shaK : List Int := [
 0x428a2f98, 0x71374491, 0xb5c0fbcf, 0xe9b5dba5, 0x3956c25b, 0x59f111f1, 0x923f82a4, 0xab1c5ed5,
 0xd807aa98, 0x12835b01, 0x243185be, 0x550c7dc3, 0x72be5d74, 0x80deb1fe, 0x9bdc06a7, 0xc19bf174,
 0xe49b69c1, 0xefbe4786, 0x0fc19dc6, 0x240ca1cc, 0x2de92c6f, 0x4a7484aa, 0x5cb0a9dc, 0x76f988da,
 0x983e5152, 0xa831c66d, 0xb00327c8, 0xbf597fc7, 0xc6e00bf3, 0xd5a79147, 0x06ca6351, 0x14292967,
 0x27b70a85, 0x2e1b2138, 0x4d2c6dfc, 0x53380d13, 0x650a7354, 0x766a0abb, 0x81c2c92e, 0x92722c85,
 0xa2bfe8a1, 0xa81a664b, 0xc24b8b70, 0xc76c51a3, 0xd192e819, 0xd6990624, 0xf40e3585, 0x106aa070,
 0x19a4c116, 0x1e376c08, 0x2748774c, 0x34b0bcb5, 0x391c0cb3, 0x4ed8aa4a, 0x5b9cca4f, 0x682e6ff3,
 0x748f82ee, 0x78a5636f, 0x84c87814, 0x8cc70208, 0x90befffa, 0xa4506ceb, 0xbef9a3f7, 0xc67178f2]
def word (bs : List Int) (at_ : Nat) : Int :=
 or32 (or32 (or32 (w32 (w32 (bs[at_]?.getD 0) * 16777216)) (w32 (w32 (bs[at_ + 1]?.getD 0) * 65536))) (w32 (w32 (bs[at_ + 2]?.getD 0) * 256))) (w32 (bs[at_ + 3]?.getD 0))
def words (bs : List Int) (at_ : Nat) : Nat → List Int
 | 0 => []
 | n + 1 => words bs at_ n ++ [word bs (at_ + 4 * n)]
def sig0 (x : Int) : Int := xor32 (xor32 (rotr x 7) (rotr x 18)) (x / 8)
def sig1 (x : Int) : Int := xor32 (xor32 (rotr x 17) (rotr x 19)) (x / 1024)
def nextW (ws : List Int) (i : Nat) : Int :=
 w32 (w32 (w32 (ws[(i - 16)]?.getD 0 + sig0 (ws[(i - 15)]?.getD 0)) + ws[(i - 7)]?.getD 0) + sig1 (ws[(i - 2)]?.getD 0))
def sched (m : List Int) : Nat → List Int
 | 0 => m
 | n + 1 => sched m n ++ [nextW (sched m n) (16 + n)]
structure St where
 a : Int
 b : Int
 c : Int
 d : Int
 e : Int
 f : Int
 g : Int
 h : Int
def St.l (s : St) : List Int := [s.a, s.b, s.c, s.d, s.e, s.f, s.g, s.h]
def bigS1 (e : Int) : Int := xor32 (xor32 (rotr e 6) (rotr e 11)) (rotr e 25)
def bigS0 (a : Int) : Int := xor32 (xor32 (rotr a 2) (rotr a 13)) (rotr a 22)
def chf (e f g : Int) : Int := xor32 (and32 e f) (and32 (not32 e) g)
def maj (a b c : Int) : Int := xor32 (xor32 (and32 a b) (and32 a c)) (and32 b c)
def rnd (k w : Int) (s : St) : St :=
 ⟨w32 (s.h + bigS1 s.e + chf s.e s.f s.g + k + w + (bigS0 s.a + maj s.a s.b s.c)), s.a, s.b, s.c, w32 (s.d + (s.h + bigS1 s.e + chf s.e s.f s.g + k + w)), s.e, s.f, s.g⟩
def rnds (ks ws : List Int) (s : St) : Nat → St
 | 0 => s
 | n + 1 => rnd (ks[n]?.getD 0) (ws[n]?.getD 0) (rnds ks ws s n)
def St.add (s t : St) : St := ⟨w32 (s.a + t.a), w32 (s.b + t.b), w32 (s.c + t.c), w32 (s.d + t.d), w32 (s.e + t.e), w32 (s.f + t.f), w32 (s.g + t.g), w32 (s.h + t.h)⟩
def comp (s : St) (bs : List Int) (at_ : Nat) : St := s.add (rnds shaK (sched (words bs at_ 16) 48) s 64)
def comps (s : St) (bs : List Int) (at_ : Nat) : Nat → St
 | 0 => s
 | n + 1 => comp (comps s bs at_ n) bs (at_ + 64 * n)
def st0 : St := ⟨0x6a09e667, 0xbb67ae85, 0x3c6ef372, 0xa54ff53a, 0x510e527f, 0x9b05688c, 0x1f83d9ab, 0x5be0cd19⟩
def w8 (n : Int) : Int := n % 256
def bytes4 (x : Int) : List Int := [w8 (x / 16777216), w8 (x / 65536), w8 (x / 256), w8 x]
def St.bytes (s : St) : List Int := bytes4 s.a ++ bytes4 s.b ++ bytes4 s.c ++ bytes4 s.d ++ bytes4 s.e ++ bytes4 s.f ++ bytes4 s.g ++ bytes4 s.h
def bytes8 (n : Int) : List Int := (List.range 8).map fun i => w8 (n / 2 ^ (8 * (7 - i)))
def padN (n : Nat) : Nat := (119 - n % 64) % 64
def pad (n : Nat) : List Int := 0x80 :: (List.replicate (padN n) 0 ++ bytes8 (((n : Int) * 8) % 18446744073709551616))
def sha (bs : List Int) : List Int := (comps st0 (bs ++ pad bs.length) 0 ((bs ++ pad bs.length).length / 64)).bytes
end Go.Proofs.YtfihlmnbonnekaaGreat
namespace Go.Proofs.YtfihlmnbonnekaaGreat
open Go.RowKit
theorem rot_amount : ∀ n : Nat, n < 32 → 1 ≤ n → bits BinOp.and IntKind.u64 (IntKind.u64.wrap (-(n : Int))) 31 = ((32 - n : Nat) : Int) := by decide +kernel
set_option maxRecDepth 100000 in
theorem rot_any (x k : Int) (n : Nat) (hk : k = -(n : Int)) (h1 : 1 ≤ n) (h2 : n < 32) (w : World) :
 Calls Tryz.prog 113 #[.int .u32 x, .int .i64 k] w fun e w' => e = .returned (.int .u32 (rotr x n)) ∧ w = w' := by
 subst hk
 have e := rot_amount n h2 h1
 go_enter Tryz.func113, Tryz.ntmps113
 go_wp2
 go_ret
 exact ⟨by rw [show 32 - (32 - n) = n by omega]; rfl, rfl⟩
theorem rot7 (x : Int) (w : World) : Calls Tryz.prog 113 #[.int .u32 x, .int .i64 (-7)] w fun e w' => e = .returned (.int .u32 (rotr x 7)) ∧ w = w' := rot_any x (-7) 7 rfl (by decide) (by decide) w
theorem rot18 (x : Int) (w : World) : Calls Tryz.prog 113 #[.int .u32 x, .int .i64 (-18)] w fun e w' => e = .returned (.int .u32 (rotr x 18)) ∧ w = w' := rot_any x (-18) 18 rfl (by decide) (by decide) w
theorem rot17 (x : Int) (w : World) : Calls Tryz.prog 113 #[.int .u32 x, .int .i64 (-17)] w fun e w' => e = .returned (.int .u32 (rotr x 17)) ∧ w = w' := rot_any x (-17) 17 rfl (by decide) (by decide) w
theorem rot19 (x : Int) (w : World) : Calls Tryz.prog 113 #[.int .u32 x, .int .i64 (-19)] w fun e w' => e = .returned (.int .u32 (rotr x 19)) ∧ w = w' := rot_any x (-19) 19 rfl (by decide) (by decide) w
theorem rot6 (x : Int) (w : World) : Calls Tryz.prog 113 #[.int .u32 x, .int .i64 (-6)] w fun e w' => e = .returned (.int .u32 (rotr x 6)) ∧ w = w' := rot_any x (-6) 6 rfl (by decide) (by decide) w
theorem rot11 (x : Int) (w : World) : Calls Tryz.prog 113 #[.int .u32 x, .int .i64 (-11)] w fun e w' => e = .returned (.int .u32 (rotr x 11)) ∧ w = w' := rot_any x (-11) 11 rfl (by decide) (by decide) w
theorem rot25 (x : Int) (w : World) : Calls Tryz.prog 113 #[.int .u32 x, .int .i64 (-25)] w fun e w' => e = .returned (.int .u32 (rotr x 25)) ∧ w = w' := rot_any x (-25) 25 rfl (by decide) (by decide) w
theorem rot2 (x : Int) (w : World) : Calls Tryz.prog 113 #[.int .u32 x, .int .i64 (-2)] w fun e w' => e = .returned (.int .u32 (rotr x 2)) ∧ w = w' := rot_any x (-2) 2 rfl (by decide) (by decide) w
theorem rot13 (x : Int) (w : World) : Calls Tryz.prog 113 #[.int .u32 x, .int .i64 (-13)] w fun e w' => e = .returned (.int .u32 (rotr x 13)) ∧ w = w' := rot_any x (-13) 13 rfl (by decide) (by decide) w
theorem rot22 (x : Int) (w : World) : Calls Tryz.prog 113 #[.int .u32 x, .int .i64 (-22)] w fun e w' => e = .returned (.int .u32 (rotr x 22)) ∧ w = w' := rot_any x (-22) 22 rfl (by decide) (by decide) w
theorem info_hash : ((Tryz.prog.info? 24).bind (·.zero)).map (fun z => z.cells.toList) = some (u8s (List.replicate 32 0)) := by kernel_rfl
theorem info_a8 : ((Tryz.prog.info? 136).bind (·.zero)).map (fun z => z.cells.toList) = some (u32s (List.replicate 8 0)) := by kernel_rfl
theorem info_a64 : ((Tryz.prog.info? 152).bind (·.zero)).map (fun z => z.cells.toList) = some (u32s (List.replicate 64 0)) := by kernel_rfl
theorem size_hash : (Tryz.prog.info? 24).map (·.size) = some 32 := by kernel_rfl
theorem size_a8 : (Tryz.prog.info? 136).map (·.size) = some 8 := by kernel_rfl
theorem size_a64 : (Tryz.prog.info? 152).map (·.size) = some 64 := by kernel_rfl
theorem size_u32 : (Tryz.prog.info? 61).map (·.size) = some 1 := by kernel_rfl
theorem size_u8 : (Tryz.prog.info? 5).map (·.size) = some 1 := by kernel_rfl
set_option maxRecDepth 100000 in
theorem rounds_any (w : World) :
 Calls Tryz.prog 112 #[] w fun e w' => e = .returned (.agg (u32s shaK).toArray) ∧ Own w w' [] := by
 have H := Own.refl w
 go_enter Tryz.func112, Tryz.ntmps112
 go_wp2_with (first
  | (refine st_new rfl (rn_alloc H rfl info_a64) ?_; clear H; intro b0 w1 hb0 H)
  | (refine st_val rfl (rn_build (cs := u32s shaK) rfl (by kernel_rfl)) ?_)
  | (refine st_skip rfl (rn_storeAll H rfl rfl rfl size_a64 .head (by kernel_rfl) (oneCell_ints _ _)) ?_; clear H; intro w2 H))
 exact fin_cell rfl H rfl (.head _) rfl rfl size_a64 rfl ⟨rfl, H.end0 (by simp; omega)⟩
end Go.Proofs.YtfihlmnbonnekaaGreat
namespace Go.Proofs.YtfihlmnbonnekaaGreat
theorem getD_take {xs ys : List Int} {i j : Nat} (h : xs.take i = ys) (hj : j < i) : xs[j]?.getD 0 = ys[j]?.getD 0 := by
 subst h
 simp [hj]
theorem take_set {xs ys : List Int} {i : Nat} {v : Int} (h : xs.take i = ys) (hi : i < xs.length) : (xs.set i v).take (i + 1) = ys ++ [v] := by
 subst h
 rw [List.take_succ_eq_append_getElem (by simpa using hi)]
 simp [List.take_set_of_le]
end Go.Proofs.YtfihlmnbonnekaaGreat
namespace Go.Proofs.YtfihlmnbonnekaaGreat
open Go.RowKit
def codeAt : Code → List Nat → Code
 | c, [] => c
 | .seq x _, 0 :: r => codeAt x r
 | .seq _ y, 1 :: r => codeAt y r
 | .cond _ x _, 0 :: r => codeAt x r
 | .cond _ _ y, 1 :: r => codeAt y r
 | .block _ b, 0 :: r => codeAt b r
 | .loop b, 0 :: r => codeAt b r
 | .scope b, 0 :: r => codeAt b r
 | _, _ => .skip
noncomputable def blkCode (p : List Nat) : Code := codeAt (Tryz.f106.body.getD .skip) p
set_option maxRecDepth 100000 in
theorem blk_words (w0 w : World) (sb so n cap b1 : Nat) (bk : List Int) (xs : List Int) (L : List Ent) (hxs : xs.length = 64) (hn : 64 ≤ n) (hn2 : n ≤ 140737488351232) (hbk : bk.length = n)
 (H : Own w0 w ((b1, u32s xs, 152) :: L))
 (hsrc : ∀ w' xs', Own w0 w' ((b1, u32s xs', 152) :: L) → ∀ i, i < n → w'.cell? ⟨sb, so + i, none⟩ = some (.int .u8 (bk[i]?.getD 0)))
 (Q : Exit → Act → World → Prop) (c : Code) (hc : blkCode [1, 1, 0, 0, 1, 0, 0, 0, 1, 0] = c) {s0 s2 s3 s4 s6 s7 s8 s9 s10 s11 s12 s13 s14 s15 s16 s17 s18 s19 s20 s21 s22 s23 s24 s25 s27 s28 s29 s30 s31 s32 s33 s34 s35 s36 s37 s38 s39 s40 s41 s42 s43 s44 s45 s46 s47 s48 s49 s50 s51 s52 s53 s54 s55 s56 s57 s58 s59 s60 s61 s62 s63 s64 s65 s66 s67 s68 s69 s70 s71 s72 s73 s74 s75 s76 s77 s78 s79 s80 s81 s82 s83 s84 s85 s86 s87 s88 s89 s90 s91 s92 s93 s94 s95 s96 s97 s98 s99 s100 s101 s102 s103 s104 s105 s106 s107 s108 s109 s110 s111 s112 s113 s114 s115 s116 s117 s118 s119 s120 s121 s122 s123 s124 s125 s126 s127 s128 s129 s130 s131 s132 s133 s134 s135 s136 s137 s138 s139 s140 s141 s142 s143 s144 s145 s146 s147 s148 s149 s150 s151 s152 s153 s154 s155 s156 s157 s158 s159 s160 s161 s162 s163 s164 s165 s166 s167 s168 s169 s170 s171 s172 s173 s174 s175 s176 s177 s178 s179 s180 s181 s182 s183 s184 s185 s186 s187 s188 s189 s190 s191 s192 s193 s194 s195 s196 s197 s198 s199 s200 s201 s202 s203 s204 s205 s206 s207 s208 s209 s210 s211 s212 s213 s214 s215 s216 s217 s218 s219 : Value}
 (hQ : ∀ (t6 t26 t27 t28 t29 t30 t31 t32 t33 t34 t35 t36 t37 t38 t39 t40 t41 t42 t43 t44 t45 t46 t47 t48 t49 t50 t51 t52 t53 t54 t55 t56 t57 t58 t59 t60 t61 t62 t63 t64 : Value) (w' : World) (xs' : List Int), xs'.length = 64 → xs'.take 16 = words bk 0 16 → Own w0 w' ((b1, u32s xs', 152) :: L) → Q (.exit 2) ⟨List.toArray (s0 :: .slice (some ⟨sb, so, none⟩) n cap :: s2 :: s3 :: s4 :: .pointer (some ⟨b1, 0, none⟩) :: t6 :: s7 :: s8 :: s9 :: s10 :: s11 :: s12 :: s13 :: s14 :: s15 :: s16 :: s17 :: s18 :: s19 :: s20 :: s21 :: s22 :: s23 :: s24 :: s25 :: t26 :: t27 :: t28 :: t29 :: t30 :: t31 :: t32 :: t33 :: t34 :: t35 :: t36 :: t37 :: t38 :: t39 :: t40 :: t41 :: t42 :: t43 :: t44 :: t45 :: t46 :: t47 :: t48 :: t49 :: t50 :: t51 :: t52 :: t53 :: t54 :: t55 :: t56 :: t57 :: t58 :: t59 :: t60 :: t61 :: t62 :: t63 :: t64 :: s65 :: s66 :: s67 :: s68 :: s69 :: s70 :: s71 :: s72 :: s73 :: s74 :: s75 :: s76 :: s77 :: s78 :: s79 :: s80 :: s81 :: s82 :: s83 :: s84 :: s85 :: s86 :: s87 :: s88 :: s89 :: s90 :: s91 :: s92 :: s93 :: s94 :: s95 :: s96 :: s97 :: s98 :: s99 :: s100 :: s101 :: s102 :: s103 :: s104 :: s105 :: s106 :: s107 :: s108 :: s109 :: s110 :: s111 :: s112 :: s113 :: s114 :: s115 :: s116 :: s117 :: s118 :: s119 :: s120 :: s121 :: s122 :: s123 :: s124 :: s125 :: s126 :: s127 :: s128 :: s129 :: s130 :: s131 :: s132 :: s133 :: s134 :: s135 :: s136 :: s137 :: s138 :: s139 :: s140 :: s141 :: s142 :: s143 :: s144 :: s145 :: s146 :: s147 :: s148 :: s149 :: s150 :: s151 :: s152 :: s153 :: s154 :: s155 :: s156 :: s157 :: s158 :: s159 :: s160 :: s161 :: s162 :: s163 :: s164 :: s165 :: s166 :: s167 :: s168 :: s169 :: s170 :: s171 :: s172 :: s173 :: s174 :: s175 :: s176 :: s177 :: s178 :: s179 :: s180 :: s181 :: s182 :: s183 :: s184 :: s185 :: s186 :: s187 :: s188 :: s189 :: s190 :: s191 :: s192 :: s193 :: s194 :: s195 :: s196 :: s197 :: s198 :: s199 :: s200 :: s201 :: s202 :: s203 :: s204 :: s205 :: s206 :: s207 :: s208 :: s209 :: s210 :: s211 :: s212 :: s213 :: s214 :: s215 :: s216 :: s217 :: s218 :: s219 :: []), []⟩ w') :
 Code.wp Tryz.prog c Q ⟨List.toArray (s0 :: .slice (some ⟨sb, so, none⟩) n cap :: s2 :: s3 :: s4 :: .pointer (some ⟨b1, 0, none⟩) :: s6 :: s7 :: s8 :: s9 :: s10 :: s11 :: s12 :: s13 :: s14 :: s15 :: s16 :: s17 :: s18 :: s19 :: s20 :: s21 :: s22 :: s23 :: s24 :: s25 :: .int .i64 0 :: s27 :: s28 :: s29 :: s30 :: s31 :: s32 :: s33 :: s34 :: s35 :: s36 :: s37 :: s38 :: s39 :: s40 :: s41 :: s42 :: s43 :: s44 :: s45 :: s46 :: s47 :: s48 :: s49 :: s50 :: s51 :: s52 :: s53 :: s54 :: s55 :: s56 :: s57 :: s58 :: s59 :: s60 :: s61 :: s62 :: s63 :: s64 :: s65 :: s66 :: s67 :: s68 :: s69 :: s70 :: s71 :: s72 :: s73 :: s74 :: s75 :: s76 :: s77 :: s78 :: s79 :: s80 :: s81 :: s82 :: s83 :: s84 :: s85 :: s86 :: s87 :: s88 :: s89 :: s90 :: s91 :: s92 :: s93 :: s94 :: s95 :: s96 :: s97 :: s98 :: s99 :: s100 :: s101 :: s102 :: s103 :: s104 :: s105 :: s106 :: s107 :: s108 :: s109 :: s110 :: s111 :: s112 :: s113 :: s114 :: s115 :: s116 :: s117 :: s118 :: s119 :: s120 :: s121 :: s122 :: s123 :: s124 :: s125 :: s126 :: s127 :: s128 :: s129 :: s130 :: s131 :: s132 :: s133 :: s134 :: s135 :: s136 :: s137 :: s138 :: s139 :: s140 :: s141 :: s142 :: s143 :: s144 :: s145 :: s146 :: s147 :: s148 :: s149 :: s150 :: s151 :: s152 :: s153 :: s154 :: s155 :: s156 :: s157 :: s158 :: s159 :: s160 :: s161 :: s162 :: s163 :: s164 :: s165 :: s166 :: s167 :: s168 :: s169 :: s170 :: s171 :: s172 :: s173 :: s174 :: s175 :: s176 :: s177 :: s178 :: s179 :: s180 :: s181 :: s182 :: s183 :: s184 :: s185 :: s186 :: s187 :: s188 :: s189 :: s190 :: s191 :: s192 :: s193 :: s194 :: s195 :: s196 :: s197 :: s198 :: s199 :: s200 :: s201 :: s202 :: s203 :: s204 :: s205 :: s206 :: s207 :: s208 :: s209 :: s210 :: s211 :: s212 :: s213 :: s214 :: s215 :: s216 :: s217 :: s218 :: s219 :: []), []⟩ w := by
 subst hc
 conv => arg 2; whnf
 go_loopw [26] (fun v26 wr => ∃ i : Nat, i ≤ 16 ∧ v26 = .int .i64 i ∧ ∃ xs : List Int, xs.length = 64 ∧ xs.take i = words bk 0 i ∧ Own w0 wr ((b1, u32s xs, 152) :: L)) (fun v26 _ => 16 - (intOf v26).toNat)
 case atStart => exact ⟨0, by omega, rfl, xs, hxs, by simp [words], H⟩
 case round =>
  clear H
  obtain ⟨i, hi, rfl, xs, hxs, htk, H⟩ := hrel
  by_cases hlt : i < 16
  · have hc : ∀ m j, j < 64 → (wr.drewN m).cell? ⟨sb, so + j, none⟩ = some (.int .u8 (bk[j]?.getD 0)) := fun m j hj => hsrc wr xs H j (by omega)
    go_wp2_with fail
    refine region_drew 35 (by kernel_rfl) (by kernel_rfl) (by kernel_rfl) ?_
    simp only [List.take_succ_cons, List.take_zero, List.drop_succ_cons, List.drop_zero]
    repeat (first
     | (refine qd_val rfl (fun m => rn_cell rfl rfl rfl rfl (hc m _ (by omega))) ?_; go_frame)
     | go_big_quiet_step (fail))
    refine wpQuiet_nil ?_
    rintro w' ⟨m, rfl⟩
    have H' := H.drewN m
    clear H
    go_wp2_with (refine st_skip rfl (rn_storeI H' rfl rfl rfl rfl .head (by omega)) ?_; clear H'; intro w2 H)
    refine ⟨⟨i + 1, by omega, by go_num, _, by simpa using hxs, ?_, H⟩, by simp [intOf]; omega⟩
    rw [take_set htk (by omega)]
    simp only [words, Nat.zero_add]
    rfl
  · have h16 : i = 16 := by omega
    go_wp2_with fail
    subst h16
    exact hQ _ _ _ _ _ _ _ _ _ _ _ _ _ _ _ _ _ _ _ _ _ _ _ _ _ _ _ _ _ _ _ _ _ _ _ _ _ _ _ _ _ _ hxs htk H
set_option maxRecDepth 100000 in
theorem blk_sched (w0 w : World) (b1 : Nat) (ms : List Int) (xs : List Int) (L : List Ent) (hxs : xs.length = 64) (h16 : xs.take 16 = ms)
 (H : Own w0 w ((b1, u32s xs, 152) :: L))
 (Q : Exit → Act → World → Prop) (c : Code) (hc : blkCode [1, 1, 0, 0, 1, 0, 0, 1, 0, 1, 0] = c) {s0 s1 s2 s3 s4 s6 s8 s9 s10 s11 s12 s13 s14 s15 s16 s17 s18 s19 s20 s21 s22 s23 s24 s25 s26 s27 s28 s29 s30 s31 s32 s33 s34 s35 s36 s37 s38 s39 s40 s41 s42 s43 s44 s45 s46 s47 s48 s49 s50 s51 s52 s53 s54 s55 s56 s57 s58 s59 s60 s61 s62 s63 s64 s65 s66 s67 s68 s69 s70 s71 s72 s73 s74 s75 s76 s77 s78 s79 s80 s81 s82 s83 s84 s85 s86 s87 s88 s89 s90 s91 s92 s93 s94 s95 s96 s97 s98 s99 s100 s101 s102 s103 s104 s105 s106 s107 s108 s109 s110 s111 s112 s113 s114 s115 s116 s117 s118 s119 s120 s121 s122 s123 s124 s125 s126 s127 s128 s129 s130 s131 s132 s133 s134 s135 s136 s137 s138 s139 s140 s141 s142 s143 s144 s145 s146 s147 s148 s149 s150 s151 s152 s153 s154 s155 s156 s157 s158 s159 s160 s161 s162 s163 s164 s165 s166 s167 s168 s169 s170 s171 s172 s173 s174 s175 s176 s177 s178 s179 s180 s181 s182 s183 s184 s185 s186 s187 s188 s189 s190 s191 s192 s193 s194 s195 s196 s197 s198 s199 s200 s201 s202 s203 s204 s205 s206 s207 s208 s209 s210 s211 s212 s213 s214 s215 s216 s217 s218 s219 : Value}
 (hQ : ∀ (t7 t8 t9 t10 t11 t65 t66 t67 t68 t69 t70 t71 t72 t73 t74 t75 t76 t77 t78 t79 t80 t81 t82 t83 t84 t85 t86 t87 t88 t89 t90 t91 t92 t93 t94 t95 t96 t97 t98 t99 t100 t101 t102 t103 t104 t105 t106 t107 : Value) (w' : World), (sched ms 48).length = 64 → Own w0 w' ((b1, u32s (sched ms 48), 152) :: L) → Q (.exit 4) ⟨List.toArray (s0 :: s1 :: s2 :: s3 :: s4 :: .pointer (some ⟨b1, 0, none⟩) :: s6 :: t7 :: t8 :: t9 :: t10 :: t11 :: s12 :: s13 :: s14 :: s15 :: s16 :: s17 :: s18 :: s19 :: s20 :: s21 :: s22 :: s23 :: s24 :: s25 :: s26 :: s27 :: s28 :: s29 :: s30 :: s31 :: s32 :: s33 :: s34 :: s35 :: s36 :: s37 :: s38 :: s39 :: s40 :: s41 :: s42 :: s43 :: s44 :: s45 :: s46 :: s47 :: s48 :: s49 :: s50 :: s51 :: s52 :: s53 :: s54 :: s55 :: s56 :: s57 :: s58 :: s59 :: s60 :: s61 :: s62 :: s63 :: s64 :: t65 :: t66 :: t67 :: t68 :: t69 :: t70 :: t71 :: t72 :: t73 :: t74 :: t75 :: t76 :: t77 :: t78 :: t79 :: t80 :: t81 :: t82 :: t83 :: t84 :: t85 :: t86 :: t87 :: t88 :: t89 :: t90 :: t91 :: t92 :: t93 :: t94 :: t95 :: t96 :: t97 :: t98 :: t99 :: t100 :: t101 :: t102 :: t103 :: t104 :: t105 :: t106 :: t107 :: s108 :: s109 :: s110 :: s111 :: s112 :: s113 :: s114 :: s115 :: s116 :: s117 :: s118 :: s119 :: s120 :: s121 :: s122 :: s123 :: s124 :: s125 :: s126 :: s127 :: s128 :: s129 :: s130 :: s131 :: s132 :: s133 :: s134 :: s135 :: s136 :: s137 :: s138 :: s139 :: s140 :: s141 :: s142 :: s143 :: s144 :: s145 :: s146 :: s147 :: s148 :: s149 :: s150 :: s151 :: s152 :: s153 :: s154 :: s155 :: s156 :: s157 :: s158 :: s159 :: s160 :: s161 :: s162 :: s163 :: s164 :: s165 :: s166 :: s167 :: s168 :: s169 :: s170 :: s171 :: s172 :: s173 :: s174 :: s175 :: s176 :: s177 :: s178 :: s179 :: s180 :: s181 :: s182 :: s183 :: s184 :: s185 :: s186 :: s187 :: s188 :: s189 :: s190 :: s191 :: s192 :: s193 :: s194 :: s195 :: s196 :: s197 :: s198 :: s199 :: s200 :: s201 :: s202 :: s203 :: s204 :: s205 :: s206 :: s207 :: s208 :: s209 :: s210 :: s211 :: s212 :: s213 :: s214 :: s215 :: s216 :: s217 :: s218 :: s219 :: []), []⟩ w') :
 Code.wp Tryz.prog c Q ⟨List.toArray (s0 :: s1 :: s2 :: s3 :: s4 :: .pointer (some ⟨b1, 0, none⟩) :: s6 :: .int .i64 16 :: s8 :: s9 :: s10 :: s11 :: s12 :: s13 :: s14 :: s15 :: s16 :: s17 :: s18 :: s19 :: s20 :: s21 :: s22 :: s23 :: s24 :: s25 :: s26 :: s27 :: s28 :: s29 :: s30 :: s31 :: s32 :: s33 :: s34 :: s35 :: s36 :: s37 :: s38 :: s39 :: s40 :: s41 :: s42 :: s43 :: s44 :: s45 :: s46 :: s47 :: s48 :: s49 :: s50 :: s51 :: s52 :: s53 :: s54 :: s55 :: s56 :: s57 :: s58 :: s59 :: s60 :: s61 :: s62 :: s63 :: s64 :: s65 :: s66 :: s67 :: s68 :: s69 :: s70 :: s71 :: s72 :: s73 :: s74 :: s75 :: s76 :: s77 :: s78 :: s79 :: s80 :: s81 :: s82 :: s83 :: s84 :: s85 :: s86 :: s87 :: s88 :: s89 :: s90 :: s91 :: s92 :: s93 :: s94 :: s95 :: s96 :: s97 :: s98 :: s99 :: s100 :: s101 :: s102 :: s103 :: s104 :: s105 :: s106 :: s107 :: s108 :: s109 :: s110 :: s111 :: s112 :: s113 :: s114 :: s115 :: s116 :: s117 :: s118 :: s119 :: s120 :: s121 :: s122 :: s123 :: s124 :: s125 :: s126 :: s127 :: s128 :: s129 :: s130 :: s131 :: s132 :: s133 :: s134 :: s135 :: s136 :: s137 :: s138 :: s139 :: s140 :: s141 :: s142 :: s143 :: s144 :: s145 :: s146 :: s147 :: s148 :: s149 :: s150 :: s151 :: s152 :: s153 :: s154 :: s155 :: s156 :: s157 :: s158 :: s159 :: s160 :: s161 :: s162 :: s163 :: s164 :: s165 :: s166 :: s167 :: s168 :: s169 :: s170 :: s171 :: s172 :: s173 :: s174 :: s175 :: s176 :: s177 :: s178 :: s179 :: s180 :: s181 :: s182 :: s183 :: s184 :: s185 :: s186 :: s187 :: s188 :: s189 :: s190 :: s191 :: s192 :: s193 :: s194 :: s195 :: s196 :: s197 :: s198 :: s199 :: s200 :: s201 :: s202 :: s203 :: s204 :: s205 :: s206 :: s207 :: s208 :: s209 :: s210 :: s211 :: s212 :: s213 :: s214 :: s215 :: s216 :: s217 :: s218 :: s219 :: []), []⟩ w := by
 subst hc
 conv => arg 2; whnf
 go_loopw [7] (fun v7 wr => ∃ i : Nat, 16 ≤ i ∧ i ≤ 64 ∧ v7 = .int .i64 i ∧ ∃ xs : List Int, xs.length = 64 ∧ xs.take i = sched ms (i - 16) ∧ Own w0 wr ((b1, u32s xs, 152) :: L)) (fun v7 _ => 64 - (intOf v7).toNat)
 case atStart => exact ⟨16, by omega, by omega, rfl, xs, hxs, h16, H⟩
 case round =>
  clear H
  obtain ⟨i, hi0, hi, rfl, xs, hxs, htk, H⟩ := hrel
  by_cases hlt : i < 64
  · go_wp2_with fail
    refine region_drew 10 (by kernel_rfl) (by kernel_rfl) (by kernel_rfl) ?_
    simp only [List.take_succ_cons, List.take_nil, List.drop_succ_cons, List.drop_nil]
    repeat (first
     | (refine qd_val rfl (fun m => rn_loadI (H.drewN m) rfl rfl (.head _) rfl rfl (by omega)) ?_; go_frame)
     | go_big_quiet_step (fail))
    refine wpQuiet_nil ?_
    rintro w' hw'
    have H' := H
    clear H
    have H := (show Own w0 w' _ by obtain ⟨m, rfl⟩ := hw'; exact H'.drewN m)
    clear H' hw'
    go_wp2_with (go_at_call 113; (first | (with_reducible refine (rot7 _ _).mono ?_) | (with_reducible refine (rot18 _ _).mono ?_) | (with_reducible refine (rot17 _ _).mono ?_) | (with_reducible refine (rot19 _ _).mono ?_) | (with_reducible refine (rot6 _ _).mono ?_) | (with_reducible refine (rot11 _ _).mono ?_) | (with_reducible refine (rot25 _ _).mono ?_) | (with_reducible refine (rot2 _ _).mono ?_) | (with_reducible refine (rot13 _ _).mono ?_) | (with_reducible refine (rot22 _ _).mono ?_)); rintro e w' ⟨rfl, rfl⟩)
    refine region_drew 15 (by kernel_rfl) (by kernel_rfl) (by kernel_rfl) ?_
    simp only [List.take_succ_cons, List.take_zero, List.drop_succ_cons, List.drop_zero]
    repeat (first
     | (refine qd_val rfl (fun m => rn_loadI (H.drewN m) rfl rfl (.head _) rfl rfl (by omega)) ?_; go_frame)
     | go_big_quiet_step (fail))
    refine wpQuiet_nil ?_
    rintro w' hw'
    have H' := H
    clear H
    have H := (show Own w0 w' _ by obtain ⟨m, rfl⟩ := hw'; exact H'.drewN m)
    clear H' hw'
    go_wp2_with (refine st_skip rfl (rn_storeI H rfl rfl rfl rfl .head (by omega)) ?_; clear H; intro w2 H)
    refine ⟨⟨i + 1, by omega, by omega, by go_num, _, by simpa using hxs, ?_, H⟩, by simp [intOf]; omega⟩
    rw [take_set htk (by omega), show i + 1 - 16 = (i - 16) + 1 by omega, sched, show 16 + (i - 16) = i by omega]
    rw [getD_take htk (show i - 16 < i by omega), getD_take htk (show i - 15 < i by omega), getD_take htk (show i - 7 < i by omega), getD_take htk (show i - 2 < i by omega)]
    simp only [nextW, w32, sig0, sig1, xor32, Int.emod_add_emod]
  · have h64 : i = 64 := by omega
    go_wp2_with fail
    subst h64
    rw [List.take_of_length_le (by omega)] at htk
    rw [show sched ms 48 = xs from htk.symm] at hQ
    exact hQ _ _ _ _ _ _ _ _ _ _ _ _ _ _ _ _ _ _ _ _ _ _ _ _ _ _ _ _ _ _ _ _ _ _ _ _ _ _ _ _ _ _ _ _ _ _ _ _ _ hxs H
end Go.Proofs.YtfihlmnbonnekaaGreat
namespace Go.Proofs.YtfihlmnbonnekaaGreat
open Go.RowKit
theorem length_shaK : shaK.length = 64 := rfl
set_option maxRecDepth 100000 in
theorem blk_rounds (w0 w : World) (b0 b1 b2 : Nat) (s0' : St) (ws : List Int) (L : List Ent) (hws : ws.length = 64)
 (H : Own w0 w ((b2, u32s s0'.l, 136) :: (b1, u32s ws, 152) :: (b0, u32s shaK, 152) :: L))
 (Q : Exit → Act → World → Prop) (c : Code) (hc : blkCode [1, 1, 0, 0, 1, 0, 0, 1, 1, 1, 0, 1, 0] = c) {s0 s1 s2 s3 s6 s7 s8 s9 s10 s11 s13 s14 s15 s16 s17 s18 s19 s20 s21 s22 s23 s24 s25 s26 s27 s28 s29 s30 s31 s32 s33 s34 s35 s36 s37 s38 s39 s40 s41 s42 s43 s44 s45 s46 s47 s48 s49 s50 s51 s52 s53 s54 s55 s56 s57 s58 s59 s60 s61 s62 s63 s64 s65 s66 s67 s68 s69 s70 s71 s72 s73 s74 s75 s76 s77 s78 s79 s80 s81 s82 s83 s84 s85 s86 s87 s88 s89 s90 s91 s92 s93 s94 s95 s96 s97 s98 s99 s100 s101 s102 s103 s104 s105 s106 s107 s108 s109 s110 s111 s113 s114 s115 s116 s117 s118 s119 s120 s121 s122 s123 s124 s125 s126 s127 s128 s129 s130 s131 s132 s133 s134 s135 s136 s137 s138 s139 s140 s141 s142 s143 s144 s145 s146 s147 s148 s149 s150 s151 s152 s153 s154 s155 s156 s157 s158 s159 s160 s161 s162 s163 s164 s165 s166 s167 s168 s169 s170 s171 s172 s173 s174 s175 s176 s177 s178 s179 s180 s181 s182 s183 s184 s185 s186 s187 s188 s189 s190 s191 s192 s193 s194 s195 s196 s197 s198 s199 s200 s201 s202 s203 s204 s205 s206 s207 s208 s209 s210 s211 s212 s213 s214 s215 s216 s217 s218 s219 : Value}
 (hQ : ∀ (t13 t14 t15 t16 t17 t18 t112 t113 t114 t115 t116 t117 t118 t119 t120 t121 t122 t123 t124 t125 t126 t127 t128 t129 t130 t131 t132 t133 t134 t135 t136 t137 t138 t139 t140 t141 t142 t143 t144 t145 t146 t147 t148 t149 t150 t151 t152 t153 t154 t155 t156 t157 t158 t159 t160 t161 t162 t163 t164 t165 t166 t167 t168 t169 t170 t171 t172 t173 t174 t175 t176 t177 t178 t179 t180 t181 t182 t183 t184 t185 t186 t187 t188 t189 t190 t191 t192 t193 t194 t195 t196 t197 t198 t199 t200 t201 t202 : Value) (w' : World), Own w0 w' ((b2, u32s (rnds shaK ws s0' 64).l, 136) :: (b1, u32s ws, 152) :: (b0, u32s shaK, 152) :: L) → Q (.exit 6) ⟨List.toArray (s0 :: s1 :: s2 :: s3 :: .pointer (some ⟨b0, 0, none⟩) :: .pointer (some ⟨b1, 0, none⟩) :: s6 :: s7 :: s8 :: s9 :: s10 :: s11 :: .pointer (some ⟨b2, 0, none⟩) :: t13 :: t14 :: t15 :: t16 :: t17 :: t18 :: s19 :: s20 :: s21 :: s22 :: s23 :: s24 :: s25 :: s26 :: s27 :: s28 :: s29 :: s30 :: s31 :: s32 :: s33 :: s34 :: s35 :: s36 :: s37 :: s38 :: s39 :: s40 :: s41 :: s42 :: s43 :: s44 :: s45 :: s46 :: s47 :: s48 :: s49 :: s50 :: s51 :: s52 :: s53 :: s54 :: s55 :: s56 :: s57 :: s58 :: s59 :: s60 :: s61 :: s62 :: s63 :: s64 :: s65 :: s66 :: s67 :: s68 :: s69 :: s70 :: s71 :: s72 :: s73 :: s74 :: s75 :: s76 :: s77 :: s78 :: s79 :: s80 :: s81 :: s82 :: s83 :: s84 :: s85 :: s86 :: s87 :: s88 :: s89 :: s90 :: s91 :: s92 :: s93 :: s94 :: s95 :: s96 :: s97 :: s98 :: s99 :: s100 :: s101 :: s102 :: s103 :: s104 :: s105 :: s106 :: s107 :: s108 :: s109 :: s110 :: s111 :: t112 :: t113 :: t114 :: t115 :: t116 :: t117 :: t118 :: t119 :: t120 :: t121 :: t122 :: t123 :: t124 :: t125 :: t126 :: t127 :: t128 :: t129 :: t130 :: t131 :: t132 :: t133 :: t134 :: t135 :: t136 :: t137 :: t138 :: t139 :: t140 :: t141 :: t142 :: t143 :: t144 :: t145 :: t146 :: t147 :: t148 :: t149 :: t150 :: t151 :: t152 :: t153 :: t154 :: t155 :: t156 :: t157 :: t158 :: t159 :: t160 :: t161 :: t162 :: t163 :: t164 :: t165 :: t166 :: t167 :: t168 :: t169 :: t170 :: t171 :: t172 :: t173 :: t174 :: t175 :: t176 :: t177 :: t178 :: t179 :: t180 :: t181 :: t182 :: t183 :: t184 :: t185 :: t186 :: t187 :: t188 :: t189 :: t190 :: t191 :: t192 :: t193 :: t194 :: t195 :: t196 :: t197 :: t198 :: t199 :: t200 :: t201 :: t202 :: s203 :: s204 :: s205 :: s206 :: s207 :: s208 :: s209 :: s210 :: s211 :: s212 :: s213 :: s214 :: s215 :: s216 :: s217 :: s218 :: s219 :: []), []⟩ w') :
 Code.wp Tryz.prog c Q ⟨List.toArray (s0 :: s1 :: s2 :: s3 :: .pointer (some ⟨b0, 0, none⟩) :: .pointer (some ⟨b1, 0, none⟩) :: s6 :: s7 :: s8 :: s9 :: s10 :: s11 :: .pointer (some ⟨b2, 0, none⟩) :: s13 :: s14 :: s15 :: s16 :: s17 :: s18 :: s19 :: s20 :: s21 :: s22 :: s23 :: s24 :: s25 :: s26 :: s27 :: s28 :: s29 :: s30 :: s31 :: s32 :: s33 :: s34 :: s35 :: s36 :: s37 :: s38 :: s39 :: s40 :: s41 :: s42 :: s43 :: s44 :: s45 :: s46 :: s47 :: s48 :: s49 :: s50 :: s51 :: s52 :: s53 :: s54 :: s55 :: s56 :: s57 :: s58 :: s59 :: s60 :: s61 :: s62 :: s63 :: s64 :: s65 :: s66 :: s67 :: s68 :: s69 :: s70 :: s71 :: s72 :: s73 :: s74 :: s75 :: s76 :: s77 :: s78 :: s79 :: s80 :: s81 :: s82 :: s83 :: s84 :: s85 :: s86 :: s87 :: s88 :: s89 :: s90 :: s91 :: s92 :: s93 :: s94 :: s95 :: s96 :: s97 :: s98 :: s99 :: s100 :: s101 :: s102 :: s103 :: s104 :: s105 :: s106 :: s107 :: s108 :: s109 :: s110 :: s111 :: .int .i64 0 :: s113 :: s114 :: s115 :: s116 :: s117 :: s118 :: s119 :: s120 :: s121 :: s122 :: s123 :: s124 :: s125 :: s126 :: s127 :: s128 :: s129 :: s130 :: s131 :: s132 :: s133 :: s134 :: s135 :: s136 :: s137 :: s138 :: s139 :: s140 :: s141 :: s142 :: s143 :: s144 :: s145 :: s146 :: s147 :: s148 :: s149 :: s150 :: s151 :: s152 :: s153 :: s154 :: s155 :: s156 :: s157 :: s158 :: s159 :: s160 :: s161 :: s162 :: s163 :: s164 :: s165 :: s166 :: s167 :: s168 :: s169 :: s170 :: s171 :: s172 :: s173 :: s174 :: s175 :: s176 :: s177 :: s178 :: s179 :: s180 :: s181 :: s182 :: s183 :: s184 :: s185 :: s186 :: s187 :: s188 :: s189 :: s190 :: s191 :: s192 :: s193 :: s194 :: s195 :: s196 :: s197 :: s198 :: s199 :: s200 :: s201 :: s202 :: s203 :: s204 :: s205 :: s206 :: s207 :: s208 :: s209 :: s210 :: s211 :: s212 :: s213 :: s214 :: s215 :: s216 :: s217 :: s218 :: s219 :: []), []⟩ w := by
 subst hc
 conv => arg 2; whnf
 go_loopw [112] (fun v wr => ∃ i : Nat, i ≤ 64 ∧ v = .int .i64 i ∧ Own w0 wr ((b2, u32s (rnds shaK ws s0' i).l, 136) :: (b1, u32s ws, 152) :: (b0, u32s shaK, 152) :: L)) (fun v _ => 64 - (intOf v).toNat)
 case atStart => exact ⟨0, by omega, rfl, H⟩
 case round =>
  clear H
  obtain ⟨i, hi, rfl, H⟩ := hrel
  by_cases hlt : i < 64
  · have hnext : rnds shaK ws s0' (i + 1) = rnd (shaK[i]?.getD 0) (ws[i]?.getD 0) (rnds shaK ws s0' i) := rfl
    have hK := Hh length_shaK
    have hW := Hh hws
    clear hws
    have HN := Hh hnext
    clear hnext
    generalize rnds shaK ws s0' i = sv at H HN
    obtain ⟨va, vb, vc, vd, ve, vf, vg, vh⟩ := sv
    go_wp2_with fail
    refine region_drew 6 (by kernel_rfl) (by kernel_rfl) (by kernel_rfl) ?_
    simp only [List.take_succ_cons, List.take_nil, List.drop_succ_cons, List.drop_nil]
    repeat (first
     | (refine qd_val rfl (fun m => rn_load (H.drewN m) rfl rfl (.head _) rfl rfl rfl) ?_; go_frame)
     | (refine qd_val rfl (fun m => rn_loadI (H.drewN m) rfl rfl (.tail _ (.head _)) rfl rfl (by have := hW.out; omega)) ?_; go_frame)
     | (refine qd_val rfl (fun m => rn_loadI (H.drewN m) rfl rfl (.tail _ (.tail _ (.head _))) rfl rfl (by have := hK.out; omega)) ?_; go_frame)
     | go_big_quiet_step (fail))
    refine wpQuiet_nil ?_
    rintro w' hw'
    have H' := H
    clear H
    have H := (show Own w0 w' _ by obtain ⟨m, rfl⟩ := hw'; exact H'.drewN m)
    clear H' hw'
    go_wp2_with (go_at_call 113; (first | (with_reducible refine (rot7 _ _).mono ?_) | (with_reducible refine (rot18 _ _).mono ?_) | (with_reducible refine (rot17 _ _).mono ?_) | (with_reducible refine (rot19 _ _).mono ?_) | (with_reducible refine (rot6 _ _).mono ?_) | (with_reducible refine (rot11 _ _).mono ?_) | (with_reducible refine (rot25 _ _).mono ?_) | (with_reducible refine (rot2 _ _).mono ?_) | (with_reducible refine (rot13 _ _).mono ?_) | (with_reducible refine (rot22 _ _).mono ?_)); rintro e w' ⟨rfl, rfl⟩)
    refine region_drew 24 (by kernel_rfl) (by kernel_rfl) (by kernel_rfl) ?_
    simp only [List.take_succ_cons, List.take_nil, List.drop_succ_cons, List.drop_nil]
    repeat (first
     | (refine qd_val rfl (fun m => rn_load (H.drewN m) rfl rfl (.head _) rfl rfl rfl) ?_; go_frame)
     | (refine qd_val rfl (fun m => rn_loadI (H.drewN m) rfl rfl (.tail _ (.head _)) rfl rfl (by have := hW.out; omega)) ?_; go_frame)
     | (refine qd_val rfl (fun m => rn_loadI (H.drewN m) rfl rfl (.tail _ (.tail _ (.head _))) rfl rfl (by have := hK.out; omega)) ?_; go_frame)
     | go_big_quiet_step (fail))
    refine wpQuiet_nil ?_
    rintro w' hw'
    have H' := H
    clear H
    have H := (show Own w0 w' _ by obtain ⟨m, rfl⟩ := hw'; exact H'.drewN m)
    clear H' hw'
    go_wp2_with (first
     | (go_at_call 113; (first | (with_reducible refine (rot7 _ _).mono ?_) | (with_reducible refine (rot18 _ _).mono ?_) | (with_reducible refine (rot17 _ _).mono ?_) | (with_reducible refine (rot19 _ _).mono ?_) | (with_reducible refine (rot6 _ _).mono ?_) | (with_reducible refine (rot11 _ _).mono ?_) | (with_reducible refine (rot25 _ _).mono ?_) | (with_reducible refine (rot2 _ _).mono ?_) | (with_reducible refine (rot13 _ _).mono ?_) | (with_reducible refine (rot22 _ _).mono ?_)); rintro e w' ⟨rfl, rfl⟩)
     | (refine st_val rfl (rn_load H rfl rfl (.head _) rfl rfl rfl) ?_)
     | (refine st_skip rfl (rn_storeI H rfl rfl rfl rfl .head (by simp [St.l])) ?_; clear H; intro w2 H))
    refine ⟨⟨i + 1, by omega, by go_num, ?_⟩, by simp [intOf]; omega⟩
    rw [HN.out]
    simp only [St.l, List.set_cons_succ, List.set_cons_zero] at H
    exact H
  · have h64 : i = 64 := by omega
    go_wp2_with fail
    subst h64
    exact H
end Go.Proofs.YtfihlmnbonnekaaGreat
namespace Go.Proofs.YtfihlmnbonnekaaGreat
open Go.RowKit
def addN (s t : St) (i : Nat) : List Int :=
 [if 0 < i then w32 (s.a + t.a) else s.a, if 1 < i then w32 (s.b + t.b) else s.b, if 2 < i then w32 (s.c + t.c) else s.c, if 3 < i then w32 (s.d + t.d) else s.d,
  if 4 < i then w32 (s.e + t.e) else s.e, if 5 < i then w32 (s.f + t.f) else s.f, if 6 < i then w32 (s.g + t.g) else s.g, if 7 < i then w32 (s.h + t.h) else s.h]
theorem length_addN (s t : St) (i : Nat) : (addN s t i).length = 8 := rfl
theorem length_l (s : St) : s.l.length = 8 := rfl
theorem addN_step (s t : St) (i : Nat) (h : i < 8) : (addN s t i).set i (((addN s t i)[i]?.getD 0 + t.l[i]?.getD 0) % 4294967296) = addN s t (i + 1) := by
 obtain rfl | rfl | rfl | rfl | rfl | rfl | rfl | rfl : i = 0 ∨ i = 1 ∨ i = 2 ∨ i = 3 ∨ i = 4 ∨ i = 5 ∨ i = 6 ∨ i = 7 := by omega
 all_goals rfl
set_option maxRecDepth 100000 in
theorem blk_add (w0 w : World) (d b0 b1 b2 : Nat) (T : TypeId) (ss tt : St) (ws : List Int) (rest : List Value)
 (H : Own w0 w [(b2, u32s tt.l, 136), (b1, u32s ws, 152), (b0, u32s shaK, 152), (d, u32s ss.l ++ rest, T)])
 (Q : Exit → Act → World → Prop) (c : Code) (hc : blkCode [1, 1, 0, 0, 1, 0, 0, 1, 1, 1, 1, 1, 0] = c) {s1 s2 s3 s4 s5 s6 s7 s8 s9 s10 s11 s13 s14 s15 s16 s17 s18 s19 s20 s21 s22 s23 s24 s25 s26 s27 s28 s29 s30 s31 s32 s33 s34 s35 s36 s37 s38 s39 s40 s41 s42 s43 s44 s45 s46 s47 s48 s49 s50 s51 s52 s53 s54 s55 s56 s57 s58 s59 s60 s61 s62 s63 s64 s65 s66 s67 s68 s69 s70 s71 s72 s73 s74 s75 s76 s77 s78 s79 s80 s81 s82 s83 s84 s85 s86 s87 s88 s89 s90 s91 s92 s93 s94 s95 s96 s97 s98 s99 s100 s101 s102 s103 s104 s105 s106 s107 s108 s109 s110 s111 s112 s113 s114 s115 s116 s117 s118 s119 s120 s121 s122 s123 s124 s125 s126 s127 s128 s129 s130 s131 s132 s133 s134 s135 s136 s137 s138 s139 s140 s141 s142 s143 s144 s145 s146 s147 s148 s149 s150 s151 s152 s153 s154 s155 s156 s157 s158 s159 s160 s161 s162 s163 s164 s165 s166 s167 s168 s169 s170 s171 s172 s173 s174 s175 s176 s177 s178 s179 s180 s181 s182 s183 s184 s185 s186 s187 s188 s189 s190 s191 s192 s193 s194 s195 s196 s197 s198 s199 s200 s201 s202 s204 s205 s206 s207 s208 s209 s210 s211 s212 s213 s214 s215 s216 s217 s218 s219 : Value}
 (hQ : ∀ (t19 t203 t204 t205 t206 t207 t208 t209 t210 t211 t212 t213 t214 t215 t216 t217 t218 t219 : Value) (w' : World), Own w0 w' [(b2, u32s tt.l, 136), (b1, u32s ws, 152), (b0, u32s shaK, 152), (d, u32s (ss.add tt).l ++ rest, T)] → Q (.exit 8) ⟨List.toArray (.pointer (some ⟨d, 0, none⟩) :: s1 :: s2 :: s3 :: s4 :: s5 :: s6 :: s7 :: s8 :: s9 :: s10 :: s11 :: .pointer (some ⟨b2, 0, none⟩) :: s13 :: s14 :: s15 :: s16 :: s17 :: s18 :: t19 :: s20 :: s21 :: s22 :: s23 :: s24 :: s25 :: s26 :: s27 :: s28 :: s29 :: s30 :: s31 :: s32 :: s33 :: s34 :: s35 :: s36 :: s37 :: s38 :: s39 :: s40 :: s41 :: s42 :: s43 :: s44 :: s45 :: s46 :: s47 :: s48 :: s49 :: s50 :: s51 :: s52 :: s53 :: s54 :: s55 :: s56 :: s57 :: s58 :: s59 :: s60 :: s61 :: s62 :: s63 :: s64 :: s65 :: s66 :: s67 :: s68 :: s69 :: s70 :: s71 :: s72 :: s73 :: s74 :: s75 :: s76 :: s77 :: s78 :: s79 :: s80 :: s81 :: s82 :: s83 :: s84 :: s85 :: s86 :: s87 :: s88 :: s89 :: s90 :: s91 :: s92 :: s93 :: s94 :: s95 :: s96 :: s97 :: s98 :: s99 :: s100 :: s101 :: s102 :: s103 :: s104 :: s105 :: s106 :: s107 :: s108 :: s109 :: s110 :: s111 :: s112 :: s113 :: s114 :: s115 :: s116 :: s117 :: s118 :: s119 :: s120 :: s121 :: s122 :: s123 :: s124 :: s125 :: s126 :: s127 :: s128 :: s129 :: s130 :: s131 :: s132 :: s133 :: s134 :: s135 :: s136 :: s137 :: s138 :: s139 :: s140 :: s141 :: s142 :: s143 :: s144 :: s145 :: s146 :: s147 :: s148 :: s149 :: s150 :: s151 :: s152 :: s153 :: s154 :: s155 :: s156 :: s157 :: s158 :: s159 :: s160 :: s161 :: s162 :: s163 :: s164 :: s165 :: s166 :: s167 :: s168 :: s169 :: s170 :: s171 :: s172 :: s173 :: s174 :: s175 :: s176 :: s177 :: s178 :: s179 :: s180 :: s181 :: s182 :: s183 :: s184 :: s185 :: s186 :: s187 :: s188 :: s189 :: s190 :: s191 :: s192 :: s193 :: s194 :: s195 :: s196 :: s197 :: s198 :: s199 :: s200 :: s201 :: s202 :: t203 :: t204 :: t205 :: t206 :: t207 :: t208 :: t209 :: t210 :: t211 :: t212 :: t213 :: t214 :: t215 :: t216 :: t217 :: t218 :: t219 :: []), []⟩ w') :
 Code.wp Tryz.prog c Q ⟨List.toArray (.pointer (some ⟨d, 0, none⟩) :: s1 :: s2 :: s3 :: s4 :: s5 :: s6 :: s7 :: s8 :: s9 :: s10 :: s11 :: .pointer (some ⟨b2, 0, none⟩) :: s13 :: s14 :: s15 :: s16 :: s17 :: s18 :: s19 :: s20 :: s21 :: s22 :: s23 :: s24 :: s25 :: s26 :: s27 :: s28 :: s29 :: s30 :: s31 :: s32 :: s33 :: s34 :: s35 :: s36 :: s37 :: s38 :: s39 :: s40 :: s41 :: s42 :: s43 :: s44 :: s45 :: s46 :: s47 :: s48 :: s49 :: s50 :: s51 :: s52 :: s53 :: s54 :: s55 :: s56 :: s57 :: s58 :: s59 :: s60 :: s61 :: s62 :: s63 :: s64 :: s65 :: s66 :: s67 :: s68 :: s69 :: s70 :: s71 :: s72 :: s73 :: s74 :: s75 :: s76 :: s77 :: s78 :: s79 :: s80 :: s81 :: s82 :: s83 :: s84 :: s85 :: s86 :: s87 :: s88 :: s89 :: s90 :: s91 :: s92 :: s93 :: s94 :: s95 :: s96 :: s97 :: s98 :: s99 :: s100 :: s101 :: s102 :: s103 :: s104 :: s105 :: s106 :: s107 :: s108 :: s109 :: s110 :: s111 :: s112 :: s113 :: s114 :: s115 :: s116 :: s117 :: s118 :: s119 :: s120 :: s121 :: s122 :: s123 :: s124 :: s125 :: s126 :: s127 :: s128 :: s129 :: s130 :: s131 :: s132 :: s133 :: s134 :: s135 :: s136 :: s137 :: s138 :: s139 :: s140 :: s141 :: s142 :: s143 :: s144 :: s145 :: s146 :: s147 :: s148 :: s149 :: s150 :: s151 :: s152 :: s153 :: s154 :: s155 :: s156 :: s157 :: s158 :: s159 :: s160 :: s161 :: s162 :: s163 :: s164 :: s165 :: s166 :: s167 :: s168 :: s169 :: s170 :: s171 :: s172 :: s173 :: s174 :: s175 :: s176 :: s177 :: s178 :: s179 :: s180 :: s181 :: s182 :: s183 :: s184 :: s185 :: s186 :: s187 :: s188 :: s189 :: s190 :: s191 :: s192 :: s193 :: s194 :: s195 :: s196 :: s197 :: s198 :: s199 :: s200 :: s201 :: s202 :: .int .i64 0 :: s204 :: s205 :: s206 :: s207 :: s208 :: s209 :: s210 :: s211 :: s212 :: s213 :: s214 :: s215 :: s216 :: s217 :: s218 :: s219 :: []), []⟩ w := by
 subst hc
 conv => arg 2; whnf
 go_loopw [203] (fun v wr => ∃ i : Nat, i ≤ 8 ∧ v = .int .i64 i ∧ Own w0 wr [(b2, u32s tt.l, 136), (b1, u32s ws, 152), (b0, u32s shaK, 152), (d, u32s (addN ss tt i) ++ rest, T)]) (fun v _ => 8 - (intOf v).toNat)
 case atStart => exact ⟨0, by omega, rfl, H⟩
 case round =>
  clear H
  obtain ⟨i, hi, rfl, H⟩ := hrel
  by_cases hlt : i < 8
  · have hstep := Hh (addN_step ss tt i hlt)
    have ha := Hh (length_addN ss tt i)
    have ht := Hh (length_l tt)
    generalize addN ss tt i = xs at H hstep ha
    generalize tt.l = ys at H hstep ht
    go_wp2_with fail
    refine region_drew 13 (by kernel_rfl) (by kernel_rfl) (by kernel_rfl) ?_
    simp only [List.take_succ_cons, List.take_zero, List.drop_succ_cons, List.drop_zero]
    repeat (first
     | (refine qd_val rfl (fun m => rn_loadI (H.drewN m) rfl rfl (.head _) rfl rfl (by have := ht.out; omega)) ?_; go_frame)
     | (refine qd_val rfl (fun m => rn_loadIA (H.drewN m) rfl rfl (.tail _ (.tail _ (.tail _ (.head _)))) rfl rfl (by have := ha.out; omega)) ?_; go_frame)
     | go_big_quiet_step (fail))
    refine wpQuiet_nil ?_
    rintro w' hw'
    have H' := H
    clear H
    have H := (show Own w0 w' _ by obtain ⟨m, rfl⟩ := hw'; exact H'.drewN m)
    clear H' hw'
    go_wp2_with (refine st_skip rfl (rn_storeIA H rfl rfl rfl rfl (.tail (.tail (.tail .head))) (by have := ha.out; omega)) ?_; clear H; intro w2 H)
    refine ⟨⟨i + 1, by omega, by go_num, ?_⟩, by simp [intOf]; omega⟩
    rw [← hstep.out]
    exact H
  · have h8 : i = 8 := by omega
    go_wp2_with fail
    subst h8
    exact H
end Go.Proofs.YtfihlmnbonnekaaGreat
namespace Go.Proofs.YtfihlmnbonnekaaGreat
open Go.RowKit
theorem take8 (s : St) (rest : List Value) : ((u32s s.l ++ rest).drop 0).take (u32s s.l).length = u32s s.l := by simp
set_option maxRecDepth 100000 in
theorem blk_round (w0 w : World) (d b0 b1 sb so n cap : Nat) (T : TypeId) (sk : St) (xs : List Int) (rest : List Value) (bk : List Int) (hxs : xs.length = 64) (h64 : 64 ≤ n) (hn : n ≤ 140737488351232) (hbk : bk.length = n)
 (hb0 : w0.heap.size ≤ b0) (hb1 : w0.heap.size ≤ b1)
 (H : Own w0 w [(b1, u32s xs, 152), (b0, u32s shaK, 152), (d, u32s sk.l ++ rest, T)])
 (hcell : ∀ w', (∃ s' : St, Own w0 w' [(d, u32s s'.l ++ rest, T)]) → ∀ i, i < n → w'.cell? ⟨sb, so + i, none⟩ = some (.int .u8 (bk[i]?.getD 0)))
 (Q : Exit → Act → World → Prop) (c : Code) (hc : blkCode [1, 1, 0, 0] = c) {s2 s3 s6 s7 s8 s9 s10 s11 s12 s13 s14 s15 s16 s17 s18 s19 s20 s21 s22 s23 s24 s25 s26 s27 s28 s29 s30 s31 s32 s33 s34 s35 s36 s37 s38 s39 s40 s41 s42 s43 s44 s45 s46 s47 s48 s49 s50 s51 s52 s53 s54 s55 s56 s57 s58 s59 s60 s61 s62 s63 s64 s65 s66 s67 s68 s69 s70 s71 s72 s73 s74 s75 s76 s77 s78 s79 s80 s81 s82 s83 s84 s85 s86 s87 s88 s89 s90 s91 s92 s93 s94 s95 s96 s97 s98 s99 s100 s101 s102 s103 s104 s105 s106 s107 s108 s109 s110 s111 s112 s113 s114 s115 s116 s117 s118 s119 s120 s121 s122 s123 s124 s125 s126 s127 s128 s129 s130 s131 s132 s133 s134 s135 s136 s137 s138 s139 s140 s141 s142 s143 s144 s145 s146 s147 s148 s149 s150 s151 s152 s153 s154 s155 s156 s157 s158 s159 s160 s161 s162 s163 s164 s165 s166 s167 s168 s169 s170 s171 s172 s173 s174 s175 s176 s177 s178 s179 s180 s181 s182 s183 s184 s185 s186 s187 s188 s189 s190 s191 s192 s193 s194 s195 s196 s197 s198 s199 s200 s201 s202 s203 s204 s205 s206 s207 s208 s209 s210 s211 s212 s213 s214 s215 s216 s217 s218 s219 : Value}
 (hQ : ∀ (t6 t7 t8 t9 t10 t11 t12 t13 t14 t15 t16 t17 t18 t19 t21 t22 t23 t24 t25 t26 t27 t28 t29 t30 t31 t32 t33 t34 t35 t36 t37 t38 t39 t40 t41 t42 t43 t44 t45 t46 t47 t48 t49 t50 t51 t52 t53 t54 t55 t56 t57 t58 t59 t60 t61 t62 t63 t64 t65 t66 t67 t68 t69 t70 t71 t72 t73 t74 t75 t76 t77 t78 t79 t80 t81 t82 t83 t84 t85 t86 t87 t88 t89 t90 t91 t92 t93 t94 t95 t96 t97 t98 t99 t100 t101 t102 t103 t104 t105 t106 t107 t108 t109 t110 t111 t112 t113 t114 t115 t116 t117 t118 t119 t120 t121 t122 t123 t124 t125 t126 t127 t128 t129 t130 t131 t132 t133 t134 t135 t136 t137 t138 t139 t140 t141 t142 t143 t144 t145 t146 t147 t148 t149 t150 t151 t152 t153 t154 t155 t156 t157 t158 t159 t160 t161 t162 t163 t164 t165 t166 t167 t168 t169 t170 t171 t172 t173 t174 t175 t176 t177 t178 t179 t180 t181 t182 t183 t184 t185 t186 t187 t188 t189 t190 t191 t192 t193 t194 t195 t196 t197 t198 t199 t200 t201 t202 t203 t204 t205 t206 t207 t208 t209 t210 t211 t212 t213 t214 t215 t216 t217 t218 t219 : Value) (so' cap' : Nat) (w' : World) (xs' : List Int), cap' = cap - 64 → (cap ≠ 64 → so' = so + 64) → xs'.length = 64 → Own w0 w' [(b1, u32s xs', 152), (b0, u32s shaK, 152), (d, u32s (sk.add (rnds shaK (sched (words bk 0 16) 48) sk 64)).l ++ rest, T)] → Q .normal ⟨List.toArray (.pointer (some ⟨d, 0, none⟩) :: .slice (some ⟨sb, so', none⟩) (n - 64) cap' :: s2 :: s3 :: .pointer (some ⟨b0, 0, none⟩) :: .pointer (some ⟨b1, 0, none⟩) :: t6 :: t7 :: t8 :: t9 :: t10 :: t11 :: t12 :: t13 :: t14 :: t15 :: t16 :: t17 :: t18 :: t19 :: s20 :: t21 :: t22 :: t23 :: t24 :: t25 :: t26 :: t27 :: t28 :: t29 :: t30 :: t31 :: t32 :: t33 :: t34 :: t35 :: t36 :: t37 :: t38 :: t39 :: t40 :: t41 :: t42 :: t43 :: t44 :: t45 :: t46 :: t47 :: t48 :: t49 :: t50 :: t51 :: t52 :: t53 :: t54 :: t55 :: t56 :: t57 :: t58 :: t59 :: t60 :: t61 :: t62 :: t63 :: t64 :: t65 :: t66 :: t67 :: t68 :: t69 :: t70 :: t71 :: t72 :: t73 :: t74 :: t75 :: t76 :: t77 :: t78 :: t79 :: t80 :: t81 :: t82 :: t83 :: t84 :: t85 :: t86 :: t87 :: t88 :: t89 :: t90 :: t91 :: t92 :: t93 :: t94 :: t95 :: t96 :: t97 :: t98 :: t99 :: t100 :: t101 :: t102 :: t103 :: t104 :: t105 :: t106 :: t107 :: t108 :: t109 :: t110 :: t111 :: t112 :: t113 :: t114 :: t115 :: t116 :: t117 :: t118 :: t119 :: t120 :: t121 :: t122 :: t123 :: t124 :: t125 :: t126 :: t127 :: t128 :: t129 :: t130 :: t131 :: t132 :: t133 :: t134 :: t135 :: t136 :: t137 :: t138 :: t139 :: t140 :: t141 :: t142 :: t143 :: t144 :: t145 :: t146 :: t147 :: t148 :: t149 :: t150 :: t151 :: t152 :: t153 :: t154 :: t155 :: t156 :: t157 :: t158 :: t159 :: t160 :: t161 :: t162 :: t163 :: t164 :: t165 :: t166 :: t167 :: t168 :: t169 :: t170 :: t171 :: t172 :: t173 :: t174 :: t175 :: t176 :: t177 :: t178 :: t179 :: t180 :: t181 :: t182 :: t183 :: t184 :: t185 :: t186 :: t187 :: t188 :: t189 :: t190 :: t191 :: t192 :: t193 :: t194 :: t195 :: t196 :: t197 :: t198 :: t199 :: t200 :: t201 :: t202 :: t203 :: t204 :: t205 :: t206 :: t207 :: t208 :: t209 :: t210 :: t211 :: t212 :: t213 :: t214 :: t215 :: t216 :: t217 :: t218 :: t219 :: []), []⟩ w') :
 Code.wp Tryz.prog c Q ⟨List.toArray (.pointer (some ⟨d, 0, none⟩) :: .slice (some ⟨sb, so, none⟩) n cap :: s2 :: s3 :: .pointer (some ⟨b0, 0, none⟩) :: .pointer (some ⟨b1, 0, none⟩) :: s6 :: s7 :: s8 :: s9 :: s10 :: s11 :: s12 :: s13 :: s14 :: s15 :: s16 :: s17 :: s18 :: s19 :: s20 :: s21 :: s22 :: s23 :: s24 :: s25 :: s26 :: s27 :: s28 :: s29 :: s30 :: s31 :: s32 :: s33 :: s34 :: s35 :: s36 :: s37 :: s38 :: s39 :: s40 :: s41 :: s42 :: s43 :: s44 :: s45 :: s46 :: s47 :: s48 :: s49 :: s50 :: s51 :: s52 :: s53 :: s54 :: s55 :: s56 :: s57 :: s58 :: s59 :: s60 :: s61 :: s62 :: s63 :: s64 :: s65 :: s66 :: s67 :: s68 :: s69 :: s70 :: s71 :: s72 :: s73 :: s74 :: s75 :: s76 :: s77 :: s78 :: s79 :: s80 :: s81 :: s82 :: s83 :: s84 :: s85 :: s86 :: s87 :: s88 :: s89 :: s90 :: s91 :: s92 :: s93 :: s94 :: s95 :: s96 :: s97 :: s98 :: s99 :: s100 :: s101 :: s102 :: s103 :: s104 :: s105 :: s106 :: s107 :: s108 :: s109 :: s110 :: s111 :: s112 :: s113 :: s114 :: s115 :: s116 :: s117 :: s118 :: s119 :: s120 :: s121 :: s122 :: s123 :: s124 :: s125 :: s126 :: s127 :: s128 :: s129 :: s130 :: s131 :: s132 :: s133 :: s134 :: s135 :: s136 :: s137 :: s138 :: s139 :: s140 :: s141 :: s142 :: s143 :: s144 :: s145 :: s146 :: s147 :: s148 :: s149 :: s150 :: s151 :: s152 :: s153 :: s154 :: s155 :: s156 :: s157 :: s158 :: s159 :: s160 :: s161 :: s162 :: s163 :: s164 :: s165 :: s166 :: s167 :: s168 :: s169 :: s170 :: s171 :: s172 :: s173 :: s174 :: s175 :: s176 :: s177 :: s178 :: s179 :: s180 :: s181 :: s182 :: s183 :: s184 :: s185 :: s186 :: s187 :: s188 :: s189 :: s190 :: s191 :: s192 :: s193 :: s194 :: s195 :: s196 :: s197 :: s198 :: s199 :: s200 :: s201 :: s202 :: s203 :: s204 :: s205 :: s206 :: s207 :: s208 :: s209 :: s210 :: s211 :: s212 :: s213 :: s214 :: s215 :: s216 :: s217 :: s218 :: s219 :: []), []⟩ w := by
 subst hc
 conv => arg 2; whnf
 have hcell' := Hh hcell
 clear hcell
 go_wp2_with fail
 refine blk_words w0 _ sb so _ cap b1 bk xs _ hxs h64 hn hbk H ?_ _ _ (by kernel_rfl) ?_
 · intro w' xs' H' i hi
   exact hcell'.out w' ⟨sk, Own.drop (L1 := [(b1, u32s xs', 152), (b0, u32s shaK, 152)]) H' (by simp; omega)⟩ i hi
 clear H
 intro x6 x26 x27 x28 x29 x30 x31 x32 x33 x34 x35 x36 x37 x38 x39 x40 x41 x42 x43 x44 x45 x46 x47 x48 x49 x50 x51 x52 x53 x54 x55 x56 x57 x58 x59 x60 x61 x62 x63 x64 wa xa hxa htk H
 have htk' := Hh htk
 clear htk hcell' hxs
 go_wp2_with fail
 refine blk_sched w0 _ b1 (words bk 0 16) xa _ hxa htk'.out H _ _ (by kernel_rfl) ?_
 clear H hxa htk'
 intro y7 y8 y9 y10 y11 y65 y66 y67 y68 y69 y70 y71 y72 y73 y74 y75 y76 y77 y78 y79 y80 y81 y82 y83 y84 y85 y86 y87 y88 y89 y90 y91 y92 y93 y94 y95 y96 y97 y98 y99 y100 y101 y102 y103 y104 y105 y106 y107 wb hws H
 have hws' := Hh hws
 clear hws
 generalize hsc : sched (words bk 0 16) 48 = sc at H hws' hQ
 clear hsc
 have hv8 := take8 sk rest
 go_wp2_with (first
  | (refine st_val rfl (rn_loadRow (vs := u32s sk.l) H rfl rfl (.tail _ (.tail _ (.head _))) rfl rfl size_a8 hv8) ?_)
  | (refine st_new rfl (rn_alloc H rfl info_a8) ?_; clear H; intro b2 wc hb2 H)
  | (refine st_skip rfl (rn_storeAll H rfl rfl rfl size_a8 .head rfl (oneCell_ints _ _)) ?_; clear H; intro wd H))
 refine blk_rounds w0 _ b0 b1 b2 sk sc _ hws'.out H _ _ (by kernel_rfl) ?_
 clear H hv8
 intro z13 z14 z15 z16 z17 z18 z112 z113 z114 z115 z116 z117 z118 z119 z120 z121 z122 z123 z124 z125 z126 z127 z128 z129 z130 z131 z132 z133 z134 z135 z136 z137 z138 z139 z140 z141 z142 z143 z144 z145 z146 z147 z148 z149 z150 z151 z152 z153 z154 z155 z156 z157 z158 z159 z160 z161 z162 z163 z164 z165 z166 z167 z168 z169 z170 z171 z172 z173 z174 z175 z176 z177 z178 z179 z180 z181 z182 z183 z184 z185 z186 z187 z188 z189 z190 z191 z192 z193 z194 z195 z196 z197 z198 z199 z200 z201 z202 we H
 go_wp2_with fail
 refine blk_add w0 _ d b0 b1 b2 T sk (rnds shaK sc sk 64) sc rest H _ _ (by kernel_rfl) ?_
 clear H
 intro v19 v203 v204 v205 v206 v207 v208 v209 v210 v211 v212 v213 v214 v215 v216 v217 v218 v219 wf H
 have H' := Hh (Own.drop (L1 := [(b2, u32s (rnds shaK sc sk 64).l, 136)]) H (by simp; omega))
 clear H
 go_wp2_with (refine st_val rfl (rn_sliceLo (k := .i64) (j := 64) rfl rfl size_u8 rfl rfl (by omega) (by omega)) ?_)
 all_goals exact hQ _ _ _ _ _ _ _ _ _ _ _ _ _ _ _ _ _ _ _ _ _ _ _ _ _ _ _ _ _ _ _ _ _ _ _ _ _ _ _ _ _ _ _ _ _ _ _ _ _ _ _ _ _ _ _ _ _ _ _ _ _ _ _ _ _ _ _ _ _ _ _ _ _ _ _ _ _ _ _ _ _ _ _ _ _ _ _ _ _ _ _ _ _ _ _ _ _ _ _ _ _ _ _ _ _ _ _ _ _ _ _ _ _ _ _ _ _ _ _ _ _ _ _ _ _ _ _ _ _ _ _ _ _ _ _ _ _ _ _ _ _ _ _ _ _ _ _ _ _ _ _ _ _ _ _ _ _ _ _ _ _ _ _ _ _ _ _ _ _ _ _ _ _ _ _ _ _ _ _ _ _ _ _ _ _ _ _ _ _ _ _ _ _ _ _ _ _ _ _ _ _ _ _ _ _ _ _ _ _ _ _ _ _ _ _ _ _ (by omega) (by omega) hws'.out H'.out
end Go.Proofs.YtfihlmnbonnekaaGreat
namespace Go.Proofs.YtfihlmnbonnekaaGreat
open Go.RowKit
def Src (C : World → Prop) (v : Value) (bs : List Int) : Prop :=
 ((∃ p, v = .slice p 0 0) ∧ bs = []) ∨ ∃ b off cap, v = .slice (some ⟨b, off, none⟩) bs.length cap ∧ bs.length ≤ cap ∧ ∀ w, C w → ∀ i, i < bs.length → w.cell? ⟨b, off + i, none⟩ = some (.int .u8 (bs[i]?.getD 0))
def lenV : Value → Nat | .slice _ n _ => n | _ => 0
theorem words_drop (bs : List Int) (p : Nat) : ∀ n, words (bs.drop p) 0 n = words bs p n
 | 0 => rfl
 | n + 1 => by
   have hw : word (bs.drop p) (0 + 4 * n) = word bs (p + 4 * n) := by
    unfold word
    simp only [List.getElem?_drop, Nat.zero_add, Nat.add_assoc]
   simp only [words, words_drop bs p n, hw]
theorem comps_succ (s : St) (bs : List Int) (k : Nat) : comps s bs 0 (k + 1) = (comps s bs 0 k).add (rnds shaK (sched (words (bs.drop (64 * k)) 0 16) 48) (comps s bs 0 k) 64) := by
 rw [words_drop]
 show comp (comps s bs 0 k) bs (0 + 64 * k) = _
 rw [Nat.zero_add]
 rfl
set_option maxRecDepth 100000 in
theorem block_any (w : World) (d : Nat) (T : TypeId) (s : St) (rest : List Value) (v : Value) (bs : List Int) (hd : Own w w [(d, u32s s.l ++ rest, T)])
 (hv : Src (fun w' => ∃ s' : St, Own w w' [(d, u32s s'.l ++ rest, T)]) v bs) (hlen : bs.length ≤ 140737488351232) :
 Calls Tryz.prog 106 #[.pointer (some ⟨d, 0, none⟩), v] w fun e w' => e = .returned (.tuple #[]) ∧ Own w w' [(d, u32s (comps s bs 0 (bs.length / 64)).l ++ rest, T)] := by
 have H := hd
 have hv' := Hh hv
 clear hd hv
 go_enter Tryz.func106, Tryz.ntmps106
 go_wp2_with (first
  | (go_at_call 112; refine (rounds_any _).mono ?_; rintro e w1 ⟨rfl, h1⟩; have H1 := H.call0 h1; clear H h1; have H := H1; clear H1)
  | (refine st_new rfl (rn_alloc H rfl info_a64) ?_; clear H; intro b1 w2 hb1 H)
  | (refine st_skip rfl (rn_storeAll H rfl rfl rfl size_a64 .head rfl (oneCell_ints _ _)) ?_; clear H; intro w3 H))
 go_frame
 rename_i b0 w2' hb0
 clear w2' w1
 go_loopw [1] (fun v1 wr => ∃ k, 64 * k ≤ bs.length ∧ Src (fun w' => ∃ s' : St, Own w w' [(d, u32s s'.l ++ rest, T)]) v1 (bs.drop (64 * k)) ∧ ∃ xs : List Int, xs.length = 64 ∧ Own w wr [(b1, u32s xs, 152), (b0, u32s shaK, 152), (d, u32s (comps s bs 0 k).l ++ rest, T)]) (fun v1 wr => lenV v1)
 case atStart => exact ⟨0, by omega, by simpa using hv'.out, List.replicate 64 0, rfl, H⟩
 case round =>
  clear H hv'
  obtain ⟨k, hk, hsrc, xs, hxs, H⟩ := hrel
  have hl : (bs.drop (64 * k)).length = bs.length - 64 * k := by simp
  have hcs := Hh (comps_succ s bs k)
  have hdd : Hid (bs.drop (64 * (k + 1)) = (bs.drop (64 * k)).drop 64) := by show _ = _; rw [List.drop_drop]; congr 1
  have hend : Hid (bs.length < 64 * k + 64 → comps s bs 0 (bs.length / 64) = comps s bs 0 k) := by
   intro h; rw [show bs.length / 64 = k by omega]
  generalize bs.drop (64 * k) = bk at hsrc hcs hdd hl
  generalize comps s bs 0 k = sk at H hcs hend
  rcases hsrc with ⟨⟨p0, hnil⟩, hz⟩ | ⟨sb, so, cap, hu1, hcap, hcell⟩
  · subst hnil hz
    simp only [List.length_nil] at hl
    have hfin := Hh (hend.out (by omega))
    have H' := Hh (Own.drop (L1 := [(b1, u32s xs, 152), (b0, u32s shaK, 152)]) H (by simp; omega))
    clear hl hcs hdd hend H
    go_wp2_with fail
    go_end0
    exact ⟨rfl, by rw [hfin.out]; exact H'.out⟩
  · subst hu1
    have hlb : bk.length ≤ 140737488351232 := by omega
    have hlk : bk.length + 64 * k = bs.length := by omega
    clear hl
    by_cases h64 : 64 ≤ bk.length
    · refine blk_round w _ d b0 b1 sb so _ cap T sk xs rest bk hxs h64 hlb rfl hb0 hb1 H hcell _ _ (by kernel_rfl) ?_
      clear H
      intro _ _ _ _ _ _ _ _ _ _ _ _ _ _ _ _ _ _ _ _ _ _ _ _ _ _ _ _ _ _ _ _ _ _ _ _ _ _ _ _ _ _ _ _ _ _ _ _ _ _ _ _ _ _ _ _ _ _ _ _ _ _ _ _ _ _ _ _ _ _ _ _ _ _ _ _ _ _ _ _ _ _ _ _ _ _ _ _ _ _ _ _ _ _ _ _ _ _ _ _ _ _ _ _ _ _ _ _ _ _ _ _ _ _ _ _ _ _ _ _ _ _ _ _ _ _ _ _ _ _ _ _ _ _ _ _ _ _ _ _ _ _ _ _ _ _ _ _ _ _ _ _ _ _ _ _ _ _ _ _ _ _ _ _ _ _ _ _ _ _ _ _ _ _ _ _ _ _ _ _ _ _ _ _ _ _ _ _ _ _ _ _ _ _ _ _ _ _ _ _ _ _ _ _ _ _ _ _ _ _ _ _ _ so' cap' w' xs' hcp hso hxs' H
      change _ ∧ _
      go_roundw
      case rel =>
       refine ⟨k + 1, by omega, ?_, xs', hxs', ?_⟩
       · rw [hdd.out]
         refine Or.inr ⟨sb, so', cap', by simp, by simp; omega, fun wx hwx i hi => ?_⟩
         have hi' : i < bk.length - 64 := by simpa using hi
         rw [hso (by omega), List.getElem?_drop, show so + 64 + i = so + (64 + i) by omega]
         exact hcell wx hwx (64 + i) (by omega)
       · rw [hcs.out]; exact H
      case measure => simp [lenV]; omega
    · have hfin := Hh (hend.out (by omega))
      have H' := Hh (Own.drop (L1 := [(b1, u32s xs, 152), (b0, u32s shaK, 152)]) H (by simp; omega))
      clear hcell hcs hdd hend H
      go_wp2_with fail
      go_end0
      exact ⟨rfl, by rw [hfin.out]; exact H'.out⟩
end Go.Proofs.YtfihlmnbonnekaaGreat
