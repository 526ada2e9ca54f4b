/- LetsIn: the program's and the reference's, walked; IndexFunc and ContainsFunc over contacts. -/
import Derived.Test.YtnkdhpbbiilekaaCv
namespace Go.Proofs.Ytnkdhpbbiilekaa
open Go.RowKit
/-- What a filter lets in by one contact. -/
def letP (kind port fa fq : Int) (x : Ct) : Bool := (x.p == port) && ((x.a == fa) && ((kind == 1) || (x.q == fq)))
def lets (kind : Int) (l : List Ct) (port fa fq : Int) : Bool := (kind == 0) || l.any (letP kind port fa fq)
def letsIn (kind : Int) (l : List Ct) (port fa fq : Int) : Bool := inR kind 0 2 && (vC l && lets kind l port fa fq)
theorem eqlEn (a q a' q' : Int) (w : World) : (binOp .eql 24 (.agg #[.int .i64 a, .int .i64 q]) (.agg #[.int .i64 a', .int .i64 q'])).run Try.prog w = .ok (.bool ((a == a') && (q == q'))) w := by
  have u3 := Try.underlying3
  have a3 := Try.isAgg3
  have z3 := Try.sizeOf3
  have hS : Try.prog.underlying 24 = some (.struct (Try.prog.fieldsOf 24)) := by kernel_rfl
  have hp : Try.prog.stoodInHeld 24 = false := by kernel_rfl
  rw [run_eql_struct, show (10000 : Nat) = 9999 + 1 from rfl, run_equalIn_agg w 9999 24 _ _ hS hp]
  simp only [Program.fieldsOf, Try.underlying24]
  go_simp
  by_cases h1 : a = a' <;> by_cases h2 : q = q' <;> simp [h1, h2]
end Go.Proofs.Ytnkdhpbbiilekaa
