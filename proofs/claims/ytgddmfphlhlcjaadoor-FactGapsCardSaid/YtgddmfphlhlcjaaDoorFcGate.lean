/- Two cheap looks ahead (is the operation a call of this function, a builtin over these places?), as the printed words have them. -/
import Derived.Test.YtgddmfphlhlcjaaDoorWWords
import Derived.Test.YtgddmfphlhlcjaaDoorWLast
import Derived.Test.YtgddmfphlhlcjaaDoorWGuard
namespace Go.Proofs.YtgddmfphlhlcjaaDoorW.PrintWords
open Go.RowKit
section
variable {P : Program} {ops : Array Oper} {o : Oper} {rest : List Oper} {a : Act} {Q : Exit → Act → World → Prop} {W : World}
theorem gate_callee {f : FuncId} {as : Array Operand} {ts : Array TypeId} (_ho : o.op = .call { callee := .value (.func f), args := as, argTypes := ts }) (h : wpList P ops Q (o :: rest) a W) : wpList P ops Q (o :: rest) a W := h
theorem gate_builtin {b : Builtin} {xs : Array Operand} {ts : Array TypeId} (_ho : o.op = .call { callee := .builtin b, args := xs, argTypes := ts }) (h : wpList P ops Q (o :: rest) a W) : wpList P ops Q (o :: rest) a W := h
end
end Go.Proofs.YtgddmfphlhlcjaaDoorW.PrintWords
namespace Go.Proofs.YtgddmfphlhlcjaaDoorW.PrintMore
theorem nothing : True := trivial
end Go.Proofs.YtgddmfphlhlcjaaDoorW.PrintMore
