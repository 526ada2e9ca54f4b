/- The contracts on timers, as the statements' walks take them: each result under a name of its own. -/
import Derived.Test.YtpfmlenodgjebaaIa
import Derived.Test.YtpfmlenodgjebaaMs
namespace Go.Proofs.Ytpfmlenodgjebaa
open Go.RowKit
section
variable {A : Option Addr} {c n m : Nat} {l L : List Mp} {I : List Int} {w : World} {r : Bool} {now hold v port : Int}
theorem impl_NE (hr : nextV l hold = v) (hn : n = l.length) (hl : l.length ≤ 2000000) (hs : Sl encM 4 w A c l) :
    Calls Try.prog 40 #[.slice A n c, .int .i64 hold] w (Ret w (.int .i64 v)) := by
  subst hr
  exact impl_NextExpiry A c n l hold w hn hl hs
theorem spec_NE (hr : nextV l hold = v) (hn : n = l.length) (hl : l.length ≤ 2000000) (hs : Sl encM 4 w A c l) :
    Calls Try.prog 39 #[.slice A n c, .int .i64 hold] w (Ret w (.int .i64 v)) := by
  subst hr
  exact spec_NextExpiry A c n l hold w hn hl hs
theorem impl_ET (hR : expV l now hold = L) (hm : L.length = m) (hn : n = l.length) (hl : l.length ≤ 2000000) (hs : Sl encM 4 w A c l) :
    Calls Try.prog 50 #[.slice A n c, .int .i64 now, .int .i64 hold] w (fun e w' => ∃ A', e = .returned (.slice A' m m) ∧ Out encM 4 w.heap.size w' A' m L ∧ Below w.heap.size w w') := by
  subst hm
  subst hR
  exact impl_ExpireTable A c n l now hold w hn hl hs
theorem spec_ET (hR : expV l now hold = L) (hm : L.length = m) (hn : n = l.length) (hl : l.length ≤ 2000000) (hs : Sl encM 4 w A c l) :
    Calls Try.prog 49 #[.slice A n c, .int .i64 now, .int .i64 hold] w (fun e w' => ∃ A' c', e = .returned (.slice A' m c') ∧ Ow encM 4 37 w.heap.size w' A' c' L ∧ Below w.heap.size w w') := by
  subst hm
  subst hR
  exact spec_ExpireTable A c n l now hold w hn hl hs
theorem impl_EP (hR : goneV l now hold = I) (hm : I.length = m) (hn : n = l.length) (hl : l.length ≤ 2000000) (hs : Sl encM 4 w A c l) :
    Calls Try.prog 44 #[.slice A n c, .int .i64 now, .int .i64 hold] w (fun e w' => ∃ A', e = .returned (.slice A' m m) ∧ Out encI 1 w.heap.size w' A' m I ∧ Below w.heap.size w w') := by
  subst hm
  subst hR
  exact impl_ExpiredPorts A c n l now hold w hn hl hs
theorem spec_EP (hR : goneV l now hold = I) (hm : I.length = m) (hn : n = l.length) (hl : l.length ≤ 2000000) (hs : Sl encM 4 w A c l) :
    Calls Try.prog 43 #[.slice A n c, .int .i64 now, .int .i64 hold] w (fun e w' => ∃ A' c', e = .returned (.slice A' m c') ∧ Ow encI 1 3 w.heap.size w' A' c' I ∧ Below w.heap.size w w') := by
  subst hm
  subst hR
  exact spec_ExpiredPorts A c n l now hold w hn hl hs
theorem spec_TP (hR : touchV l port now = L) (ho : touchO l port now = r) (hm : L.length = m) (hn : n = l.length) (hl : l.length ≤ 2000000) (hs : Sl encM 4 w A c l) :
    Calls Try.prog 42 #[.slice A n c, .int .i64 port, .int .i64 now] w (fun e w' => ∃ A' c', e = .returned (.tuple #[.slice A' m c', .bool r]) ∧ Ow encM 4 37 w.heap.size w' A' c' L ∧ Below w.heap.size w w') := by
  subst hm
  subst hR
  subst ho
  exact spec_TouchPort A c n l port now w hn hl hs
end
theorem keep_get {f : Mp → Bool} {l : List Mp} {k : Nat} {x : Mp} (h : l[k]? = some x) (hf : f x = false) : (keep f l)[(keep f (l.take k)).length]? = some x := by
  have e : keep f l = keep f (l.take k) ++ x :: keep f (l.drop (k + 1)) := by
    conv => lhs; rw [← List.take_append_drop k l, drop_cons h]
    unfold keep
    rw [List.filter_append, List.filter_cons, hf]
    rfl
  rw [e, List.getElem?_append_right (Nat.le_refl _), Nat.sub_self]
  rfl
theorem touchV_len (l : List Mp) (p now : Int) : (touchV l p now).length ≤ l.length := by
  cases h : touchO l p now
  · unfold touchV; rw [h]; simp
  · rw [touch_len h]; exact Nat.le_refl _
end Go.Proofs.Ytpfmlenodgjebaa
