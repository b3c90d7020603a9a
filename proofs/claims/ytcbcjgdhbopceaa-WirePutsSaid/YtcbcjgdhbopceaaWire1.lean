/- Contracts of package wire's eye: Look, Err, Fail (small seat). -/
import Derived.Test.YtcbcjgdhbopceaaBase
namespace Go.Proofs.Ytcbcjgdhbopceaa
open Go.RowKit

theorem look_any (v : Value) (w : World) (a : Option Addr) (n c : Nat) (hv : v = .slice a n c) :
    Calls Try.prog 19 #[v] w fun e w' => e = .returned (.pointer (some ⟨w.heap.size, 0, none⟩)) ∧ w.alloc (.cells #[.slice a n c, .int .i64 0] 80) = w' := by
  subst hv
  go_enter Try.func19, Try.ntmps19
  go_wp2
  go_ret
  exact ⟨rfl, rfl⟩

theorem err_nil (w : World) :
    Calls Try.prog 22 #[.pointer none] w fun e w' => e = .returned (.int .i64 1) ∧ w = w' := by
  go_enter Try.func22, Try.ntmps22
  go_wp2
  go_ret
  exact ⟨rfl, rfl⟩

theorem err_any (g : Nat) (x : Int) (w : World) (h1 : w.cell? ⟨g, 1, none⟩ = some (.int .i64 x)) :
    Calls Try.prog 22 #[.pointer (some ⟨g, 0, none⟩)] w fun e w' => e = .returned (.int .i64 x) ∧ w = w' := by
  go_enter Try.func22, Try.ntmps22
  go_wp2
  go_ret
  exact ⟨rfl, rfl⟩

theorem fail_nil (y : Int) (w : World) :
    Calls Try.prog 31 #[.pointer none, .int .i64 y] w fun e w' => e = .returned (.tuple #[]) ∧ w = w' := by
  go_enter Try.func31, Try.ntmps31
  go_wp2
  go_end0
  exact ⟨rfl, rfl⟩

theorem fail_first (g : Nat) (y : Int) (w : World) (h1 : w.cell? ⟨g, 1, none⟩ = some (.int .i64 0)) (hf : w.frozen? ⟨g, 1, none⟩ = false) :
    Calls Try.prog 31 #[.pointer (some ⟨g, 0, none⟩), .int .i64 y] w fun e w' => e = .returned (.tuple #[]) ∧ w.setCell ⟨g, 1, none⟩ (.int .i64 y) = w' := by
  go_enter Try.func31, Try.ntmps31
  go_wp2
  go_end0
  exact ⟨rfl, rfl⟩

theorem fail_more (g : Nat) (x y : Int) (hx : (x == 0) = false) (w : World) (h1 : w.cell? ⟨g, 1, none⟩ = some (.int .i64 x)) :
    Calls Try.prog 31 #[.pointer (some ⟨g, 0, none⟩), .int .i64 y] w fun e w' => e = .returned (.tuple #[]) ∧ w = w' := by
  go_enter Try.func31, Try.ntmps31
  go_wp2
  go_end0
  exact ⟨rfl, rfl⟩

end Go.Proofs.Ytcbcjgdhbopceaa
