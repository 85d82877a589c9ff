import Derived.Test.YtehjmmedghcndaaCK0
import Derived.ChangeKeysEq
/-! Two headers compared. -/
namespace Go.Proofs.Ytehjmmedghcndaa.PG
open Go.RowKit Go.Proofs.YtehjmmedghcndaaW.PrintWords Go.Proofs.YtehjmmedghcndaaW.PrintLast Go.Proofs.YtehjmmedghcndaaW.PrintMore
theorem part_hd {X : List Int} {i : Nat} (hi : i < X.length) (W : World) : (part 5 (X.map (Value.int .u8)).toArray (i * Try.prog.cellsOf 5)).run Try.prog W = .ok (.int .u8 (X.getD i 0)) W := by
  rw [show Try.prog.cellsOf 5 = 1 by kernel_rfl, Nat.mul_one]
  exact run_part_plain W (by kernel_rfl) (by simp [hi])
theorem eqItems_hd {X Y : List Int} : ∀ (is : List Nat), (∀ i ∈ is, i < X.length ∧ i < Y.length) → ∀ W, (Op.eqItems 9999 5 (Try.prog.cellsOf 5) (X.map (Value.int .u8)).toArray (Y.map (Value.int .u8)).toArray is).run Try.prog W = .ok (is.all fun i => X.getD i 0 == Y.getD i 0) W
  | [], _, W => by simp [Op.eqItems]
  | i :: is, h, W => by
    have h0 := h i (List.mem_cons_self ..)
    have ih := eqItems_hd is (fun j hj => h j (List.mem_cons_of_mem _ hj)) W
    have he : (Op.equalIn 9999 5 (.int .u8 (X.getD i 0)) (.int .u8 (Y.getD i 0))).run Try.prog W = .ok (X.getD i 0 == Y.getD i 0) W := run_equalIn_int W 9998 5 .u8 .u8 _ _ Try.underlying5
    simp only [Op.eqItems, Sem.run_bind, part_hd h0.1, part_hd h0.2, he, Result.andThen_ok, List.all_cons]
    cases X.getD i 0 == Y.getD i 0 with
    | true => simpa using ih
    | false => simp
theorem eq_hd {X Y : List Int} (hX : X.length = 32) (hY : Y.length = 32) (W : World) : (Op.equalIn 10000 84 (.agg (X.map (Value.int .u8)).toArray) (.agg (Y.map (Value.int .u8)).toArray)).run Try.prog W = .ok (decide (X = Y)) W := by
  obtain ⟨i, hi⟩ : ∃ i, Try.prog.info? 5 = some i := by
    have h := info5
    cases hq : Try.prog.info? 5 with
    | none => simp [hq] at h
    | some i => exact ⟨i, rfl⟩
  rw [show (10000 : Nat) = 9999 + 1 from rfl, run_equalIn_array W 9999 _ _ Try.underlying84 hi, eqItems_hd (List.range 32) (fun j hj => by have := List.mem_range.1 hj; omega) W]
  congr 1
  rw [Bool.eq_iff_iff, List.all_eq_true, decide_eq_true_iff]
  constructor
  · intro h
    refine List.ext_getElem (by omega) (fun j h1 h2 => ?_)
    have := h j (List.mem_range.2 (by omega))
    rw [List.getD_eq_getElem?_getD, List.getD_eq_getElem?_getD, List.getElem?_eq_getElem h1, List.getElem?_eq_getElem h2] at this
    simpa using this
  · rintro rfl j _
    exact beq_self_eq_true _
end Go.Proofs.Ytehjmmedghcndaa.PG
