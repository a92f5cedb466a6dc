/- Two words for structs, without a group's header. -/
import Derived.Test.YtdaeanodgnmknaaGw
namespace Go.Proofs.Ytdaeanodgnmknaa.Gw
open Go.RowKit Go.Proofs.Ytdaeanodgnmknaa.Rd Go.Proofs.YtdaeanodgnmknaaW.PrintWords Go.Proofs.YtdaeanodgnmknaaW.PrintLast Go.Proofs.YtdaeanodgnmknaaW.PrintMore
set_option linter.unusedVariables false
set_option linter.unusedSimpArgs false
theorem infou8 : (Try.prog.info? 5).map (fun i => (i.zero, i.size, i.bytes)) = some (some (.int .u8 0), 1, 1) := by kernel_rfl
theorem eql_yield {P : Program} {oi : Oper} {a : Act} {W : World} {b : BinOp} {t t' : TypeId} {x y : Operand} {v1 v2 v : Value} (ho : oi.op = .binOp b t x y t') (hx : a.eval x = v1) (hy : a.eval y = v2) (hg : (eqGuard b t x y v1 v2).run P W = .ok () W) (h : (Go.binOp b t v1 v2).run P W = .ok v W) : (execOp a.eval oi).run P W = .ok (.value v) W := by
  unfold execOp
  simp only [ho, hx, hy, Sem.run_bind, Sem.run_pure, Result.andThen_ok, hg, h]
end Go.Proofs.Ytdaeanodgnmknaa.Gw
