/- hss: Key.Sign, two levels. -/
import Derived.Test.YtfihlmnbonnekaaHSgA
namespace Go.Proofs.Ytfihlmnbonnekaa
open Go.RowKit

set_option linter.unusedVariables false
theorem old_out {w w' : World} {mv : Value} {msg : List Int} {L L0 : List Ent} (hO : Old w mv msg) (hne : ∀ j, blk mv = some j → j ∉ L0.map (·.1)) (h : Own w w' L) (hL : ∀ j ∈ L.map (·.1), j ∈ L0.map (·.1) ∨ w.heap.size ≤ j) : Old w' mv msg :=
  ⟨SlAt.own hO.1 h (fun j hj hm => (hL j hm).elim (hne j hj) (fun h1 => by have := hO.2 j hj; omega)), fun j hj => Nat.lt_of_lt_of_le (hO.2 j hj) h.size⟩
set_option maxRecDepth 100000 in
set_option maxHeartbeats 8000000 in
theorem hsign_two (Φ : Nat → Value → Value → List Ent → Prop) (w : World) (kb tb : Nat) (q r N : Nat) (hq : q < 32) (hr : r < 32) (hN : N = 32 * q + r) (l : Int) (id sd : List Int) (h16 : id.length = 16) (h32 : sd.length = 32) (k : Nat) (hk : k = 1 ∨ k = 2 ∨ k = 4 ∨ k = 8) (ss : List Int) (hss : ss = id ++ sd) (L0 : List Ent) (K0 : List Value) (hK0 : (kb, K0, 114) ∈ L0) (hK2 : K0[49]? = some (.int .i64 2)) (H0 : Own w w L0)
    (pm : Option Addr) (n cm : Nat) (msg : List Int) (hO : Old w (.slice pm n cm) msg) (hmb : IsBytes msg) (hml : msg.length ≤ 90000) (hne : ∀ j, blk (.slice pm n cm) = some j → j ∉ L0.map (·.1))
    (hun : ∀ w1 X, Own w w1 (X ++ L0) → (∀ j ∈ X.map (·.1), w.heap.size ≤ j) → Calls Try.prog 67 #[.pointer (some ⟨kb, 0, none⟩), .int .i64 q] w1 fun e w2 => e = .returned (.pointer (some ⟨kb, 51 + 6 * q, none⟩)) ∧ ∃ lt pv sv M, Φ lt pv sv M ∧ LowM (pubL (cidOf id sd q) (csdOf id sd q) k) (lsigOf id sd k q (pubL (cidOf id sd q) (csdOf id sd q) k)) pv sv M ∧ (∀ j ∈ ((kb, keyR ss k l (.pointer (some ⟨tb, 0, none⟩)) q (.int .u32 1) (.int .i32 0) (.pointer (some ⟨lt, 0, none⟩)) pv sv, 114) :: (tb, fullT id sd k, 104) :: (M ++ [(lt, fullT (cidOf id sd q) (csdOf id sd q) k, 104)])).map (·.1), j ∈ (L0 : List Ent).map (·.1) ∨ w1.heap.size ≤ j) ∧ (∀ j ∈ (L0 : List Ent).map (·.1), j ∈ ((kb, keyR ss k l (.pointer (some ⟨tb, 0, none⟩)) q (.int .u32 1) (.int .i32 0) (.pointer (some ⟨lt, 0, none⟩)) pv sv, 114) :: (tb, fullT id sd k, 104) :: (M ++ [(lt, fullT (cidOf id sd q) (csdOf id sd q) k, 104)])).map (·.1)) ∧ Own w1 w2 ((kb, keyR ss k l (.pointer (some ⟨tb, 0, none⟩)) q (.int .u32 1) (.int .i32 0) (.pointer (some ⟨lt, 0, none⟩)) pv sv, 114) :: (tb, fullT id sd k, 104) :: (M ++ [(lt, fullT (cidOf id sd q) (csdOf id sd q) k, 104)]))) :
    Calls Try.prog 35 #[.pointer (some ⟨kb, 0, none⟩), .int .i64 N, (.slice pm n cm)] w fun e w' => ∃ v, e = .returned (.tuple #[v, .int .i64 0]) ∧ BufR w.heap.size (numB 1 4 ++ (lsigOf id sd k q (pubL (cidOf id sd q) (csdOf id sd q) k)) ++ (pubL (cidOf id sd q) (csdOf id sd q) k) ++ (lsigOf (cidOf id sd q) (csdOf id sd q) k r msg)) w' v ∧ ∃ lt pv sv M, Φ lt pv sv M ∧ LowM (pubL (cidOf id sd q) (csdOf id sd q) k) (lsigOf id sd k q (pubL (cidOf id sd q) (csdOf id sd q) k)) pv sv M ∧ (∀ j ∈ ((kb, keyR ss k l (.pointer (some ⟨tb, 0, none⟩)) q (.int .u32 1) (.int .i32 0) (.pointer (some ⟨lt, 0, none⟩)) pv sv, 114) :: (tb, fullT id sd k, 104) :: (M ++ [(lt, fullT (cidOf id sd q) (csdOf id sd q) k, 104)])).map (·.1), j ∈ L0.map (·.1) ∨ w.heap.size ≤ j) ∧ (∀ j ∈ L0.map (·.1), j ∈ ((kb, keyR ss k l (.pointer (some ⟨tb, 0, none⟩)) q (.int .u32 1) (.int .i32 0) (.pointer (some ⟨lt, 0, none⟩)) pv sv, 114) :: (tb, fullT id sd k, 104) :: (M ++ [(lt, fullT (cidOf id sd q) (csdOf id sd q) k, 104)])).map (·.1)) ∧ Own w w' ((kb, keyR ss k l (.pointer (some ⟨tb, 0, none⟩)) q (.int .u32 1) (.int .i32 0) (.pointer (some ⟨lt, 0, none⟩)) pv sv, 114) :: (tb, fullT id sd k, 104) :: (M ++ [(lt, fullT (cidOf id sd q) (csdOf id sd q) k, 104)])) := by
  have hmf : ∀ (fn : Fn) (first cap : Array Value) (w : World), (Instr.makeFunc fn first cap).run Try.prog w = .ok (.func fn first cap) w := fun _ _ _ _ => rfl
  have hm2 := Lib.hid many_2
  have hpl : Hid ((pubL (cidOf id sd q) (csdOf id sd q) k).length = 56) := length_pubL (length_cidOf id sd q) _ k
  have hsl : Hid ((lsigOf id sd k q (pubL (cidOf id sd q) (csdOf id sd q) k)).length ≤ 10000) := by show _ ≤ _; rw [length_lsigOf]; rcases hk with rfl | rfl | rfl | rfl <;> exact Nat.le_of_ble_eq_true (by kernel_rfl)
  have hput := Lib.hid (fun (w2 : World) (M : List Ent) (wb mb lt : Nat) (v : Value) (xs : List Int) (h1 : Old w2 (.slice pm n cm) msg) (h2 : ∀ k, blk (.slice pm n cm) = some k → k ≠ lt) => put_any w w2 M wb mb lt v (.slice pm n cm) xs msg (cidOf id sd q) (csdOf id sd q) (length_cidOf id sd q) (length_csdOf id sd q) k hk (fullT (cidOf id sd q) (csdOf id sd q) k) (Or.inr rfl) r hr h1 hmb hml h2)
  have hlen4 : Hid ((numB 1 4).length = 4) := length_numB _ _
  obtain ⟨FT, hFT⟩ : ∃ x, x = fullT id sd k := ⟨_, rfl⟩
  obtain ⟨FL, hFL⟩ : ∃ x, x = fullT (cidOf id sd q) (csdOf id sd q) k := ⟨_, rfl⟩
  obtain ⟨PB, hPB⟩ : ∃ x, x = (pubL (cidOf id sd q) (csdOf id sd q) k) := ⟨_, rfl⟩
  rw [← hPB] at hpl hsl hun ⊢
  obtain ⟨SG, hSG⟩ : ∃ x, x = lsigOf id sd k q PB := ⟨_, rfl⟩
  obtain ⟨SR, hSR⟩ : ∃ x, x = (lsigOf (cidOf id sd q) (csdOf id sd q) k r msg) := ⟨_, rfl⟩
  rw [← hSG] at hsl hun ⊢
  rw [← hSR] at hput ⊢
  rw [← hFL] at hput hun ⊢
  rw [← hFT] at hun ⊢
  have hun' := Lib.hid hun
  have hN0 : ¬ (N : Int) < 0 := by omega
  have hN1 : ¬ (1024 : Int) ≤ N := by omega
  have hquo : (N : Int).tdiv 32 = q := by rw [Int.tdiv_eq_ediv_of_nonneg (by omega)]; omega
  have hrem : (N : Int).tmod 32 = r := by rw [Int.tmod_eq_emod_of_nonneg (by omega)]; omega
  have hat := Lib.hid (fun (h48 : ss.length = 48) (x y tr pb sg : Value) => keyR_at (k := (k : Int)) (l := l) (t := (.pointer (some ⟨tb, 0, none⟩))) (q := q) (x := x) (y := y) (tr := tr) (pb := pb) (sg := sg) h48)
  have h48 : Hid (ss.length = 48) := by show _ = _; rw [hss, List.length_append, h16, h32]
  have hO' := Lib.hid hO
  have hne' := Lib.hid hne
  have H := H0
  clear H0 hun hFT hFL hPB hSG hSR hN h16 h32 hk hss hO hne
  go_enter Try.func35, Try.ntmps35
  have tok1 : True := trivial
  go_wp2_with (first
    | (clear tok1; refine st_new rfl (rn_box (cs := [(.slice pm n cm)]) H rfl rfl rfl) ?_; clear H; intro mb w1 hmw H; have tok2 : True := trivial)
    | (clear tok2; refine st_val rfl (rn_cell rfl rfl rfl rfl ((H.cell (.tail _ hK0) 49).trans hK2)) ?_; have tok3 : True := trivial)
    | (clear tok3; go_at_call 64; refine (hm2.out _).mono ?_; rintro e w2 ⟨rfl, h2⟩; have H2 := H.call0 h2; clear H h2; have H := H2; clear H2; have tok4 : True := trivial)
    | (clear tok4; refine st_new rfl (rn_alloc H rfl info_writer) ?_; clear H; intro wb w3 hwb H; have B : Buf 5 .u8 w w3 ((wb, [.slice none 0 0], 107) :: ((mb, [(.slice pm n cm)], 33) :: L0)) (.slice none 0 0) [] := Buf.nil H; clear H; have tok5 : True := trivial)
    | (clear tok5; refine st_val rfl (rn_cell rfl rfl rfl rfl ((B.own0.cell (.tail _ (.tail _ hK0)) 49).trans hK2)) ?_; have tok6 : True := trivial)
    | (clear tok6; go_at_call 59; refine (num_any _ _ _ _ _ _ B 1 4 (by omega) (by omega) (by simp)).mono ?_; rintro e w4 ⟨rfl, v4, B2⟩; clear B; have B := B2; clear B2; have tok7 : True := trivial)
    | (clear tok7; refine st_val rfl (rn_cell rfl rfl rfl rfl ((B.own0.cell (.tail _ (.tail _ hK0)) 49).trans hK2)) ?_; have tok8 : True := trivial)
    | (clear tok8; go_at_call 67; refine (hun'.out _ [_, _] B.own0 (by simp; omega)).mono ?_; rintro e w5 ⟨rfl, lt, pv, sv, M, m0, m1, m2, m3, h5⟩; have hs4 := B.own0.size; have B2 := Buf.callU (L := [_, _]) B h5 m2 m3; clear B; have B := B2; clear B2; have P5 := Lib.hid (m1 w5 (fun b cs T hm => h5.here _ _ _ (.tail _ (.tail _ (List.mem_append_left _ hm))))); have M1 := Lib.hid m1; have M0 := Lib.hid m0; have M3 := Lib.hid m3; have M2 : Hid (∀ j ∈ ((kb, keyR ss k l (.pointer (some ⟨tb, 0, none⟩)) q (.int .u32 1) (.int .i32 0) (.pointer (some ⟨lt, 0, none⟩)) pv sv, 114) :: (tb, FT, 104) :: (M ++ [(lt, FL, 104)])).map (·.1), j ∈ L0.map (·.1) ∨ w.heap.size ≤ j) := fun j hj => (m2 j hj).imp (fun h => h) (fun h => Nat.le_trans hs4 h); have OM : Hid (∀ w' v, Own w w' ((wb, [v], 107) :: (mb, [(.slice pm n cm)], 33) :: ((kb, keyR ss k l (.pointer (some ⟨tb, 0, none⟩)) q (.int .u32 1) (.int .i32 0) (.pointer (some ⟨lt, 0, none⟩)) pv sv, 114) :: (tb, FT, 104) :: (M ++ [(lt, FL, 104)]))) → Old w' (.slice pm n cm) msg) := (fun w' v h => old_out hO'.out hne'.out h (fun j hm => (List.mem_cons.1 hm).elim (fun e => Or.inr (by rw [e]; exact hwb)) (fun hm => (List.mem_cons.1 hm).elim (fun e => Or.inr (by rw [e]; exact hmw)) (fun hm => M2.out j hm)))); have NL : Hid (∀ j, blk (.slice pm n cm) = some j → j ≠ lt) := (fun j hj e => (M2.out j (by subst e; simp)).elim (hne'.out j hj) (fun h1 => by have := hO'.out.2 j hj; omega)); clear m0 m1 m2 m3 h5 hs4; have tok9 : True := trivial)
    | (clear tok9; refine st_val rfl (rn_cell rfl rfl rfl rfl ((B.own0.cell (.tail _ (.tail _ (.head _))) _).trans (hat.out h48.out _ _ _ _ _ 5))) ?_; have tok10 : True := trivial)
    | (clear tok10; go_at_call 60; refine (raw_any _ _ _ _ _ _ B _ SG P5.out.2.1 (by rw [List.nil_append, hlen4.out]; have := hsl.out; omega)).mono ?_; rintro e w6 ⟨rfl, v6, B2⟩; clear B P5; have B := B2; clear B2; have P6 := Lib.hid (M1.out w6 (fun b cs T hm => B.own0.here _ _ _ (.tail _ (.tail _ (.tail _ (.tail _ (List.mem_append_left _ hm))))))); have tok11 : True := trivial)
    | (clear tok11; refine st_val rfl (rn_cell rfl rfl rfl rfl ((B.own0.cell (.tail _ (.tail _ (.head _))) _).trans (hat.out h48.out _ _ _ _ _ 4))) ?_; have tok12 : True := trivial)
    | (clear tok12; go_at_call 60; refine (raw_any _ _ _ _ _ _ B _ PB P6.out.1.1 (by rw [List.nil_append, List.length_append, hlen4.out, hpl.out]; have := hsl.out; omega)).mono ?_; rintro e w7 ⟨rfl, v7, B2⟩; clear B P6; have B := B2; clear B2; have tok13 : True := trivial)
    | (clear tok13; refine st_val rfl (rn_cell rfl rfl rfl rfl ((B.own0.cell (.tail _ (.tail _ (.head _))) _).trans (hat.out h48.out _ _ _ _ _ 3))) ?_; have tok14 : True := trivial)
    | (clear tok14; refine st_callC (P := Try.prog) (R := fun v w2 => BufR w.heap.size ((([] ++ numB 1 4) ++ SG ++ PB) ++ SR) w2 v ∧ Own w w2 ((kb, keyR ss k l (.pointer (some ⟨tb, 0, none⟩)) q (.int .u32 1) (.int .i32 0) (.pointer (some ⟨lt, 0, none⟩)) pv sv, 114) :: (tb, FT, 104) :: (M ++ [(lt, FL, 104)]))) (f := 66) (cap := #[.pointer (some ⟨mb, 0, none⟩), .pointer (some ⟨wb, 0, none⟩)]) (args := #[(.pointer (some ⟨lt, 0, none⟩)), .int .i64 r, .pointer (some ⟨mb, 0, none⟩), .pointer (some ⟨wb, 0, none⟩)]) rfl rfl rfl (by simp [Act.eval]) Try.func66 (by kernel_rfl) (by kernel_rfl) ((hput.out w7 ((kb, _, _) :: (tb, _, _) :: M) wb mb lt v7 _ (OM.out _ _ B.own0) NL.out (by rw [List.nil_append, List.length_append, List.length_append, hlen4.out, hpl.out]; have := hsl.out; omega) (by omega) (by omega) B).mono fun e w8 h => h) ?_; intro v67 w8 hr; have R8 := Lib.hid hr.1; have H8 := Lib.hid hr.2; clear hr B; have tok15 : True := trivial))
  go_ret2
  exact ⟨_, rfl, R8.out, lt, pv, sv, M, M0.out, M1.out, M2.out, M3.out, H8.out⟩

end Go.Proofs.Ytfihlmnbonnekaa
