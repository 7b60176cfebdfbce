/- '==' of two spots. -/
import Derived.Test.YtainljbkejafcaaNBase
import Derived.Test.YtainljbkejafcaaWEqStruct
namespace Go.Proofs.Ytainljbkejafcaa.N
open Go.RowKit Go.Proofs.YtainljbkejafcaaW.PrintWords
set_option maxRecDepth 100000 in
theorem pl_eq (a0 a1 a2 b0 b1 b2 : Int) (d : Nat) (W : World) : (Op.equalIn (d + 2) 23 (.agg #[.int .i64 a0, .int .i64 a1, .int .i64 a2]) (.agg #[.int .i64 b0, .int .i64 b1, .int .i64 b2])).run Try.prog W = .ok ((a0 == b0) && ((a1 == b1) && (a2 == b2))) W := by
  refine eqA_of Try.underlying23 (by kernel_rfl) ?_
  refine eqf_cons rfl (a := .int .i64 a0) (b := .int .i64 b0) (by rfl) (by rfl) (by rfl) ?_
  refine eqf_cons rfl (a := .int .i64 a1) (b := .int .i64 b1) (by rfl) (by rfl) (by rfl) ?_
  exact eqf_last rfl (a := .int .i64 a2) (b := .int .i64 b2) (by rfl) (by rfl) (by rfl)
set_option maxRecDepth 100000 in
theorem sp_eqIn (x k : Sp) (W : World) (d : Nat) : (Op.equalIn (d + 3) 26 (.agg #[.int .i64 x.br, .int .i64 x.vol, .int .i64 x.blk, .int .u64 x.num]) (.agg #[.int .i64 k.br, .int .i64 k.vol, .int .i64 k.blk, .int .u64 k.num])).run Try.prog W = .ok (decide (x = k)) W := by
  have e : decide (x = k) = (((x.br == k.br) && ((x.vol == k.vol) && (x.blk == k.blk))) && (x.num == k.num)) := by
    cases x; cases k
    rw [Bool.eq_iff_iff]
    simp [and_assoc]
  rw [e]
  refine eqA_of Try.underlying26 (by kernel_rfl) ?_
  refine eqf_cons rfl (a := .agg #[.int .i64 x.br, .int .i64 x.vol, .int .i64 x.blk]) (b := .agg #[.int .i64 k.br, .int .i64 k.vol, .int .i64 k.blk]) (by rfl) (by rfl) (pl_eq _ _ _ _ _ _ d W) ?_
  exact eqf_last rfl (a := .int .u64 x.num) (b := .int .u64 k.num) (by rfl) (by rfl) (by rfl)
set_option maxRecDepth 100000 in
theorem sp_eq (x k : Sp) (W : World) : (binOp .eql 26 (.agg #[.int .i64 x.br, .int .i64 x.vol, .int .i64 x.blk, .int .u64 x.num]) (.agg #[.int .i64 k.br, .int .i64 k.vol, .int .i64 k.blk, .int .u64 k.num])).run Try.prog W = .ok (.bool (decide (x = k))) W := by
  have h2 := sp_eqIn x k W (Op.maxDepth - 3)
  rw [show Op.maxDepth - 3 + 3 = Op.maxDepth from by decide] at h2
  show ((Op.equal 26 _ _) >>= fun r => pure (Value.bool r)).run Try.prog W = _
  simp only [Op.equal, Sem.run_bind, h2, Result.andThen_ok, Sem.run_pure]
set_option maxRecDepth 100000 in
theorem sp_ne (x k : Sp) (W : World) : (binOp .neq 26 (.agg #[.int .i64 x.br, .int .i64 x.vol, .int .i64 x.blk, .int .u64 x.num]) (.agg #[.int .i64 k.br, .int .i64 k.vol, .int .i64 k.blk, .int .u64 k.num])).run Try.prog W = .ok (.bool (!decide (x = k))) W := by
  have h2 := sp_eqIn x k W (Op.maxDepth - 3)
  rw [show Op.maxDepth - 3 + 3 = Op.maxDepth from by decide] at h2
  show ((Op.equal 26 _ _) >>= fun r => pure (Value.bool !r)).run Try.prog W = _
  simp only [Op.equal, Sem.run_bind, h2, Result.andThen_ok, Sem.run_pure]
end Go.Proofs.Ytainljbkejafcaa.N
