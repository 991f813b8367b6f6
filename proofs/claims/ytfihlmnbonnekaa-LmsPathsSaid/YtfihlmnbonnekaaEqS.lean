/- equality of secrets. -/
import Derived.Test.YtfihlmnbonnekaaOLaw
namespace Go.Proofs.Ytfihlmnbonnekaa
open Go.RowKit

theorem u8s_app (xs ys : List Int) : u8s (xs ++ ys) = u8s xs ++ u8s ys := ints_append ..

set_option maxRecDepth 100000 in
theorem eqSecret (w : World) (a b c d : List Int) (ha : a.length = 16) (hb : b.length = 32) (hc : c.length = 16) (hd : d.length = 32) : (Op.equalIn 10000 30 (.agg (u8s (a ++ b)).toArray) (.agg (u8s (c ++ d)).toArray)).run Try.prog w = .ok (decide (a = c) && decide (b = d)) w := by
  rw [show (10000 : Nat) = 9999 + 1 from rfl, run_equalIn_struct w 9999 30 _ _ (by kernel_rfl) (by kernel_rfl)]
  have hl : (Try.prog.fieldsOf 30).toList.length = 2 := by kernel_rfl
  have h0 : ((Try.prog.fieldsOf 30).toList[0]?).map (fun f => (f.type, f.offset, f.name != "_")) = some (26, 0, true) := by kernel_rfl
  have h1 : ((Try.prog.fieldsOf 30).toList[1]?).map (fun f => (f.type, f.offset, f.name != "_")) = some (28, 16, true) := by kernel_rfl
  generalize (Try.prog.fieldsOf 30).toList = fs at hl h0 h1
  match fs, hl, h0, h1 with
  | [f, g], _, h0, h1 =>
    simp only [List.getElem?_cons_zero, List.getElem?_cons_succ, Option.map_some, Option.some.injEq, Prod.mk.injEq] at h0 h1
    obtain ⟨f1, f2, f3⟩ := h0
    obtain ⟨g1, g2, g3⟩ := h1
    have pt : ∀ (xs ys : List Int) (hx : xs.length = 16) (hy : ys.length = 32) (w : World), (part f.type (u8s (xs ++ ys)).toArray f.offset).run Try.prog w = .ok (.agg (u8s xs).toArray) w := fun xs ys hx hy w => by
      rw [f1, f2]
      unfold part
      have e : (Try.prog.info? 26).map (·.size) = some 16 := size_id
      have hag : (isAgg 26).run Try.prog w = .ok true w := by rw [run_isAgg (P := Try.prog) (ty := 26) rfl]; rfl
      simp only [Sem.run_bind, hag, Result.andThen_ok, if_true, run_sizeOf e, Sem.run_pure]
      congr 2
      rw [u8s_app]
      simp [hx]
    have pg : ∀ (xs ys : List Int) (hx : xs.length = 16) (hy : ys.length = 32) (w : World), (part g.type (u8s (xs ++ ys)).toArray g.offset).run Try.prog w = .ok (.agg (u8s ys).toArray) w := fun xs ys hx hy w => by
      rw [g1, g2]
      unfold part
      have e : (Try.prog.info? 28).map (·.size) = some 32 := size_hash
      have hag : (isAgg 28).run Try.prog w = .ok true w := by rw [run_isAgg (P := Try.prog) (ty := 28) rfl]; rfl
      simp only [Sem.run_bind, hag, Result.andThen_ok, if_true, run_sizeOf e, Sem.run_pure]
      congr 2
      rw [u8s_app]
      simp [hx]
      exact List.take_of_length_le (by rw [length_ints, hy]; omega)
    have q1 : ∀ w, (Op.equalIn 9999 f.type (.agg (u8s a).toArray) (.agg (u8s c).toArray)).run Try.prog w = .ok (decide (a = c)) w := fun w => by rw [f1]; exact run_eqInts 9997 (by omega) (e := 5) (q := .u8) rfl rfl (by kernel_rfl) a c ha hc w
    have q2 : ∀ w, (Op.equalIn 9999 g.type (.agg (u8s b).toArray) (.agg (u8s d).toArray)).run Try.prog w = .ok (decide (b = d)) w := fun w => by rw [g1]; exact run_eqInts 9997 (by omega) (e := 5) (q := .u8) rfl rfl (by kernel_rfl) b d hb hd w
    simp only [Op.eqFields, Sem.run_bind, Sem.run_ite, pt a b ha hb, pt c d hc hd, pg a b ha hb, pg c d hc hd, q1, q2, Result.andThen_ok]
    have f3' : f.name ≠ "_" := by simpa using f3
    have g3' : g.name ≠ "_" := by simpa using g3
    rw [if_pos f3', if_pos g3']
    generalize decide (a = c) = x
    generalize decide (b = d) = y
    cases x <;> cases y <;> rfl

end Go.Proofs.Ytfihlmnbonnekaa
