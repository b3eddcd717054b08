/- Events changed in place in a row of the call's own. -/
import Derived.Test.YtiphacmmglohaaaRetro
namespace Go.Proofs.Ytiphacmmglohaaa
open Go.RowKit
theorem set_append_two {α : Type} (p : List α) (a b : α) (r : List α) (u v : α) : ((p ++ a :: b :: r).set p.length u).set (p.length + 1) v = p ++ u :: v :: r := by
  simp
/-- The two cells of an event's time are stored to. -/
theorem csE_set_at (done rest : List Ev) (x : Ev) (t t' : Int) : ((csE (done ++ x :: rest)).set (done.length * 10) (.int .i64 t)).set (done.length * 10 + 1) (.int .i64 t') = csE (done ++ { x with at_ := (t, t') } :: rest) := by
  have e : ∀ y : Ev, csE (done ++ y :: rest) = csE done ++ .int .i64 y.at_.1 :: .int .i64 y.at_.2 :: ([.int .i64 y.dur.1, .int .i64 y.dur.2, .int .i64 y.pit.1, .int .i64 y.pit.2.1, .int .i64 y.pit.2.2, .bool y.rest, .int .i64 y.sign, .int .i64 y.pass] ++ csE rest) := by
    intro y
    rw [csE_append]
    rfl
  rw [e, e, ← csE_len done, set_append_two]
end Go.Proofs.Ytiphacmmglohaaa
