import Derived.Test.YtaiinpbaaeemmaaR06d
import Derived.Test.YtaiinpbaaeemmaaB06f
set_option linter.unusedVariables false
set_option linter.unusedSimpArgs false
set_option maxRecDepth 100000
namespace Go.Proofs.Ytaiinpbaaeemmaa
open Go Go.Av Classical
attribute [local irreducible] SRuns SL FR KR oKS oKF caK caF yaK gdK fgK NewK NewF
def E19 (N : Nat) : Nat → List Nat
  | 1 => [N + 777]
  | 2 => [N + 777]
  | 4 => [N + 777, N + 784]
  | 5 => [N + 784]
  | 6 => [N + 777, N + 784]
  | 7 => [N + 777]
  | 8 => [N + 777, N + 784]
  | 9 => [N + 777, N + 784]
  | _ => []
@[local go_sem] theorem E19_0 (N : Nat) : E19 N 0 = [] := rfl
@[local go_sem] theorem E19_1 (N : Nat) : E19 N 1 = [N + 777] := rfl
@[local go_sem] theorem E19_2 (N : Nat) : E19 N 2 = [N + 777] := rfl
@[local go_sem] theorem E19_3 (N : Nat) : E19 N 3 = [] := rfl
@[local go_sem] theorem E19_4 (N : Nat) : E19 N 4 = [N + 777, N + 784] := rfl
@[local go_sem] theorem E19_5 (N : Nat) : E19 N 5 = [N + 784] := rfl
@[local go_sem] theorem E19_6 (N : Nat) : E19 N 6 = [N + 777, N + 784] := rfl
@[local go_sem] theorem E19_7 (N : Nat) : E19 N 7 = [N + 777] := rfl
@[local go_sem] theorem E19_8 (N : Nat) : E19 N 8 = [N + 777, N + 784] := rfl
@[local go_sem] theorem E19_9 (N : Nat) : E19 N 9 = [N + 777, N + 784] := rfl
@[local go_sem] theorem E19_10 (N : Nat) : E19 N 10 = [] := rfl
@[local go_sem] theorem E19_11 (N : Nat) : E19 N 11 = [] := rfl
@[local go_sem] theorem E19_12 (N : Nat) : E19 N 12 = [] := rfl
@[local go_sem] theorem E19_13 (N : Nat) : E19 N 13 = [] := rfl
end Go.Proofs.Ytaiinpbaaeemmaa
