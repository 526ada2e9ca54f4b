/- The functions on tables, walked: places, valid tables. -/
import Derived.Test.YtnkdhpbbiilekaaMd
namespace Go.Proofs.Ytnkdhpbbiilekaa
open Go.RowKit
theorem eqlEnB (a q a' q' : Int) {r : Bool} (h : ((a == a') && (q == q')) = r) (w : World) : (binOp .eql 24 (.agg #[.int .i64 a, .int .i64 q]) (.agg #[.int .i64 a', .int .i64 q'])).run Try.prog w = .ok (.bool r) w := by
  rw [← h]; exact eqlEn a q a' q' w
end Go.Proofs.Ytnkdhpbbiilekaa
