import Derived.Test.YtaiinpbaaeemmaaC06a
set_option linter.unusedVariables false
set_option linter.unusedSimpArgs false
set_option maxRecDepth 100000
namespace Go.Proofs.Ytaiinpbaaeemmaa
open Go Go.Av
-- antiquary/antiquaryref06.Farthest
noncomputable def X31 (M : Mem) : Fx := ⟨Try.prog, T, 50, 31, [(.tmp 4)], [], [], M, none⟩
section
variable (M : Mem)
@[go_sem] theorem X31.P : (X31 M).P = Try.prog := rfl
@[go_sem] theorem X31.T : (X31 M).T = T := rfl
@[go_sem] theorem X31.N : (X31 M).N = 50 := rfl
@[go_sem] theorem X31.rs : (X31 M).rs = [(.tmp 4)] := rfl
@[go_sem] theorem X31.own : (X31 M).own = [] := rfl
@[go_sem] theorem X31.M0 : (X31 M).M0 = M := rfl
@[go_sem] theorem X31.ro : (X31 M).ro = none := rfl
end
-- antiquary/box.Inside
@[go_sem] def r32_1 : List SOp := [
   ⟨some 2, .box 24 (.tmp 0), none⟩,
   ⟨some 3, .box 24 (.tmp 1), none⟩,
   ⟨some 4, .assign (.const (.bool false)), none⟩]
@[go_sem] def r32_2 : List SOp := [
   ⟨some 5, .load 24 (.tmp 2), none⟩,
   ⟨some 6, .call { callee := (.value (.func 24)), args := #[(.tmp 5)], argTypes := #[24] }, none⟩,
   ⟨some 7, .move (.tmp 6), none⟩,
   ⟨some 8, .load 24 (.tmp 3), (some (some 7, true))⟩,
   ⟨some 9, .fieldAddr 24 (.tmp 2) 0, (some (some 7, true))⟩,
   ⟨some 10, .load 22 (.tmp 9), (some (some 7, true))⟩,
   ⟨some 11, .call { callee := (.value (.func 22)), args := #[(.tmp 8), (.tmp 10)], argTypes := #[24, 22] }, (some (some 7, true))⟩,
   ⟨some 12, .pick (.tmp 7) (.tmp 11) (.const (.bool false)), none⟩,
   ⟨some 13, .move (.tmp 12), none⟩,
   ⟨some 14, .load 24 (.tmp 3), (some (some 13, true))⟩,
   ⟨some 15, .fieldAddr 24 (.tmp 2) 1, (some (some 13, true))⟩,
   ⟨some 16, .load 22 (.tmp 15), (some (some 13, true))⟩,
   ⟨some 17, .call { callee := (.value (.func 22)), args := #[(.tmp 14), (.tmp 16)], argTypes := #[24, 22] }, (some (some 13, true))⟩,
   ⟨some 18, .pick (.tmp 13) (.tmp 17) (.const (.bool false)), none⟩,
   ⟨some 4, .assign (.tmp 18), none⟩]
def c32_3 : SC := .seq (.reg r32_2 [4]) .ret
def c32_4 : SC := .seq (.reg r32_1 [2, 3, 4]) c32_3
def c32 : SC := c32_4
noncomputable def X32 (M : Mem) : Fx := ⟨Try.prog, T, 19, 32, [(.tmp 4)], [], [], M, none⟩
section
variable (M : Mem)
@[go_sem] theorem X32.P : (X32 M).P = Try.prog := rfl
@[go_sem] theorem X32.T : (X32 M).T = T := rfl
@[go_sem] theorem X32.N : (X32 M).N = 19 := rfl
@[go_sem] theorem X32.rs : (X32 M).rs = [(.tmp 4)] := rfl
@[go_sem] theorem X32.own : (X32 M).own = [] := rfl
@[go_sem] theorem X32.M0 : (X32 M).M0 = M := rfl
@[go_sem] theorem X32.ro : (X32 M).ro = none := rfl
end
theorem k32 : (Try.f32.name == "runtime.NumGoroutine") = false ∧ Try.f32.ntmps = 19 ∧ Try.f32.results.toList = [(.tmp 4)] ∧ okC (X32 fun _ => none) ((Try.f32.body).getD .skip) = true ∧ c32.bare = slim (X32 fun _ => none) ((Try.f32.body).getD .skip) := ⟨by kernel_rfl, by kernel_rfl, by kernel_rfl, by kernel_rfl, by kernel_rfl⟩
theorem a32 {al : List AV} {M : Mem} {Q : AV → Mem → Prop} (hN : al.length ≤ 19) (h : SRuns (X32 M) [.code c32] (lk (num 0 al)) M [] Q) : ACalls Try.prog 32 al M Q := ACalls.of_slim c32 [] [] (tabOf_ok _) Try.func32 (by kernel_rfl : Try.f32.body = some ((Try.f32.body).getD .skip)) 19 [(.tmp 4)] k32 hN h

-- antiquary/antiquarylaw06.short
@[go_sem] def r33_1 : List SOp := [
   ⟨some 2, .assign (.const (.bool false)), none⟩]
@[go_sem] def r33_2 : List SOp := [
   ⟨some 3, .assign (.const (.int .i64 0)), none⟩]
@[go_sem] def r33_3 : List SOp := [
   ⟨some 4, .move (.tmp 3), none⟩,
   ⟨some 5, .move (.tmp 0), none⟩,
   ⟨some 6, .call { callee := (.builtin .len), args := #[(.tmp 5)], argTypes := #[59] }, none⟩,
   ⟨some 7, .binOp .lss 3 (.tmp 4) (.tmp 6) 3, none⟩]
def c33_4 : SC := .cond (.tmp 7) .skip (.exit 0)
def c33_5 : SC := .seq (.reg r33_3 [0, 2, 3, 7]) c33_4
@[go_sem] def r33_6 : List SOp := [
   ⟨some 10, .move (.tmp 0), none⟩,
   ⟨some 11, .move (.tmp 3), none⟩,
   ⟨some 12, .indexAddr 59 (.tmp 10) (.tmp 11), none⟩,
   ⟨some 13, .load 22 (.tmp 12), none⟩,
   ⟨some 14, .call { callee := (.builtin .len), args := #[(.tmp 13)], argTypes := #[22] }, none⟩,
   ⟨some 15, .binOp .gtr 3 (.tmp 14) (.const (.int .i64 40)) 3, none⟩]
@[go_sem] def r33_7 : List SOp := [
   ⟨some 2, .assign (.const (.bool false)), none⟩]
def c33_8 : SC := .seq (.reg r33_7 [0, 2, 3]) .ret
def c33_9 : SC := .cond (.tmp 15) c33_8 .skip
def c33_10 : SC := .seq (.reg r33_6 [0, 2, 3, 15]) c33_9
@[go_sem] def r33_11 : List SOp := [
   ⟨some 8, .move (.tmp 3), none⟩,
   ⟨some 9, .binOp .add 3 (.tmp 8) (.const (.int .i64 1)) 3, none⟩,
   ⟨some 3, .assign (.tmp 9), none⟩]
def c33_12 : SC := .seq (.block 1 c33_10) (.reg r33_11 [0, 2, 3])
def c33_13 : SC := .seq c33_5 c33_12
def c33_14 : SC := .seq (.reg r33_2 [0, 2, 3]) (.block 0 (.loop c33_13))
@[go_sem] def r33_15 : List SOp := [
   ⟨some 16, .move (.tmp 0), none⟩,
   ⟨some 17, .call { callee := (.builtin .len), args := #[(.tmp 16)], argTypes := #[59] }, none⟩,
   ⟨some 18, .binOp .leq 3 (.tmp 17) (.const (.int .i64 20)) 3, none⟩,
   ⟨some 2, .assign (.tmp 18), none⟩]
def c33_16 : SC := .seq (.reg r33_15 [2]) .ret
def c33_17 : SC := .seq c33_14 c33_16
def c33_18 : SC := .seq (.reg r33_1 [0, 2]) c33_17
def c33 : SC := c33_18
noncomputable def X33 (M : Mem) : Fx := ⟨Try.prog, T, 19, 33, [(.tmp 2)], [], [], M, none⟩
section
variable (M : Mem)
@[go_sem] theorem X33.P : (X33 M).P = Try.prog := rfl
@[go_sem] theorem X33.T : (X33 M).T = T := rfl
@[go_sem] theorem X33.N : (X33 M).N = 19 := rfl
@[go_sem] theorem X33.rs : (X33 M).rs = [(.tmp 2)] := rfl
@[go_sem] theorem X33.own : (X33 M).own = [] := rfl
@[go_sem] theorem X33.M0 : (X33 M).M0 = M := rfl
@[go_sem] theorem X33.ro : (X33 M).ro = none := rfl
end
theorem k33 : (Try.f33.name == "runtime.NumGoroutine") = false ∧ Try.f33.ntmps = 19 ∧ Try.f33.results.toList = [(.tmp 2)] ∧ okC (X33 fun _ => none) ((Try.f33.body).getD .skip) = true ∧ c33.bare = slim (X33 fun _ => none) ((Try.f33.body).getD .skip) := ⟨by kernel_rfl, by kernel_rfl, by kernel_rfl, by kernel_rfl, by kernel_rfl⟩
theorem a33 {al : List AV} {M : Mem} {Q : AV → Mem → Prop} (hN : al.length ≤ 19) (h : SRuns (X33 M) [.code c33] (lk (num 0 al)) M [] Q) : ACalls Try.prog 33 al M Q := ACalls.of_slim c33 [] [] (tabOf_ok _) Try.func33 (by kernel_rfl : Try.f33.body = some ((Try.f33.body).getD .skip)) 19 [(.tmp 2)] k33 hN h

-- antiquary/box.Of
@[go_sem] def r34_1 : List SOp := [
   ⟨some 1, .box 59 (.tmp 0), none⟩,
   ⟨some 2, .alloc 24, none⟩,
   ⟨some 3, .assign (.const (.int .i64 0)), none⟩]
@[go_sem] def r34_2 : List SOp := [
   ⟨some 8, .makeFunc (.func 59) #[] #[(.tmp 1)], none⟩,
   ⟨some 4, .assign (.tmp 8), none⟩]
@[go_sem] def r34_3 : List SOp := [
   ⟨some 9, .load 59 (.tmp 1), none⟩,
   ⟨some 10, .call { callee := (.builtin .len), args := #[(.tmp 9)], argTypes := #[59] }, none⟩,
   ⟨some 11, .binOp .eql 3 (.tmp 10) (.const (.int .i64 0)) 3, none⟩,
   ⟨some 12, .move (.tmp 11), none⟩,
   ⟨some 13, .load 59 (.tmp 1), (some (some 12, false))⟩,
   ⟨some 14, .move (.tmp 4), (some (some 12, false))⟩,
   ⟨some 15, .call { callee := (.value (.func 60)), args := #[(.tmp 13), (.tmp 14)], argTypes := #[59, 49] }, (some (some 12, false))⟩,
   ⟨some 16, .pick (.tmp 12) (.const (.bool true)) (.tmp 15), none⟩]
@[go_sem] def r34_4 : List SOp := [
   ⟨some 17, .build 24 #[], none⟩,
   ⟨none, .store 24 (.tmp 2) (.tmp 17), none⟩,
   ⟨some 3, .assign (.const (.int .i64 1)), none⟩]
def c34_5 : SC := .seq (.reg r34_4 [1, 2, 3]) .ret
def c34_6 : SC := .cond (.tmp 16) c34_5 .skip
def c34_7 : SC := .seq (.reg r34_3 [1, 2, 3, 16]) c34_6
@[go_sem] def r34_8 : List (SOp × List Nat) := [
   (⟨some 18, .load 59 (.tmp 1), none⟩, [4, 5, 6, 9]),
   (⟨some 19, .indexAddr 59 (.tmp 18) (.const (.int .i64 0)), none⟩, [4, 5, 6, 9]),
   (⟨some 20, .load 22 (.tmp 19), none⟩, [4, 5, 6, 9]),
   (⟨some 21, .call { callee := (.value (.func 47)), args := #[(.tmp 20)], argTypes := #[22] }, none⟩, [4, 5, 6, 9]),
   (⟨some 22, .load 59 (.tmp 1), none⟩, [0, 1, 2, 3, 9]),
   (⟨some 23, .indexAddr 59 (.tmp 22) (.const (.int .i64 0)), none⟩, [0, 1, 2, 3, 9]),
   (⟨some 24, .load 22 (.tmp 23), none⟩, [0, 1, 2, 3, 9]),
   (⟨some 25, .call { callee := (.value (.func 47)), args := #[(.tmp 24)], argTypes := #[22] }, none⟩, [9]),
   (⟨some 26, .build 24 #[(0, (.tmp 21)), (1, (.tmp 25))], none⟩, [9]),
   (⟨some 5, .alloc 24, none⟩, [0, 1, 2, 3, 4, 5, 6, 7, 8]),
   (⟨none, .store 24 (.tmp 5) (.tmp 26), none⟩, [])]
@[go_sem] def r34_9 : List SOp := [
   ⟨some 27, .load 59 (.tmp 1), none⟩,
   ⟨some 28, .slice 59 (.tmp 27) (some (.const (.int .i64 1))) none none, none⟩,
   ⟨some 29, .call { callee := (.builtin .len), args := #[(.tmp 28)], argTypes := #[59] }, none⟩,
   ⟨some 30, .move (.const (.int .i64 0)), none⟩]
@[go_sem] def r34_10 : List SOp := [
   ⟨some 31, .binOp .lss 3 (.tmp 30) (.tmp 29) 3, none⟩]
def c34_11 : SC := .cond (.tmp 31) .skip (.exit 0)
@[go_sem] def r34_12 : List SOp := [
   ⟨some 32, .indexAddr 59 (.tmp 28) (.tmp 30), none⟩,
   ⟨some 33, .load 22 (.tmp 32), none⟩,
   ⟨some 7, .assign (.tmp 33), none⟩]
@[go_sem] def r34_13 : List (SOp × List Nat) := [
   (⟨some 34, .fieldAddr 24 (.tmp 5) 0, none⟩, [2, 4, 5, 6]),
   (⟨some 35, .load 22 (.tmp 34), none⟩, [2, 4, 5, 6]),
   (⟨some 36, .move (.tmp 7), none⟩, [0, 1, 4, 5, 6]),
   (⟨some 37, .call { callee := (.value (.func 48)), args := #[(.tmp 35), (.tmp 36), (.func 58)], argTypes := #[22, 22, 77] }, none⟩, [4, 5, 6]),
   (⟨some 38, .fieldAddr 24 (.tmp 5) 1, none⟩, [0, 1, 2, 3, 6]),
   (⟨some 39, .load 22 (.tmp 38), none⟩, [0, 1, 2, 3, 6]),
   (⟨some 40, .move (.tmp 7), none⟩, [0, 1, 2, 3, 4, 5, 8]),
   (⟨some 41, .call { callee := (.value (.func 48)), args := #[(.tmp 39), (.tmp 40), (.func 57)], argTypes := #[22, 22, 77] }, none⟩, [8]),
   (⟨some 42, .fieldAddr 24 (.tmp 5) 0, none⟩, [6, 7]),
   (⟨none, .store 22 (.tmp 42) (.tmp 37), none⟩, []),
   (⟨some 43, .fieldAddr 24 (.tmp 5) 1, none⟩, []),
   (⟨none, .store 22 (.tmp 43) (.tmp 41), none⟩, [])]
def c34_14 : SC := .seq (.reg r34_12 [2, 3, 5, 7, 28, 29, 30]) (.draw r34_13 [2, 3, 5, 28, 29, 30])
@[go_sem] def r34_15 : List SOp := [
   ⟨some 44, .binOp .add 3 (.tmp 30) (.const (.int .i64 1)) 3, none⟩,
   ⟨some 30, .move (.tmp 44), none⟩]
def c34_16 : SC := .seq (.block 1 c34_14) (.reg r34_15 [2, 3, 5, 28, 29, 30])
def c34_17 : SC := .seq c34_11 c34_16
def c34_18 : SC := .seq (.reg r34_10 [2, 3, 5, 28, 29, 30, 31]) c34_17
def c34_19 : SC := .seq (.reg r34_9 [2, 3, 5, 28, 29, 30]) (.block 0 (.loop c34_18))
@[go_sem] def r34_20 : List SOp := [
   ⟨some 45, .load 24 (.tmp 5), none⟩,
   ⟨none, .store 24 (.tmp 2) (.tmp 45), none⟩,
   ⟨some 3, .assign (.const (.int .i64 0)), none⟩]
def c34_21 : SC := .seq (.reg r34_20 [2, 3]) .ret
def c34_22 : SC := .seq c34_19 c34_21
def c34_23 : SC := .seq (.draw r34_8 [1, 2, 3, 5]) c34_22
def c34_24 : SC := .seq c34_7 c34_23
def c34_25 : SC := .seq (.reg r34_2 [1, 2, 3, 4]) c34_24
def c34_26 : SC := .seq (.reg r34_1 [1, 2, 3]) c34_25
def c34 : SC := c34_26
noncomputable def X34 (M : Mem) : Fx := ⟨Try.prog, T, 46, 34, [(.cell 2 24), (.tmp 3)], [], [], M, none⟩
section
variable (M : Mem)
@[go_sem] theorem X34.P : (X34 M).P = Try.prog := rfl
@[go_sem] theorem X34.T : (X34 M).T = T := rfl
@[go_sem] theorem X34.N : (X34 M).N = 46 := rfl
@[go_sem] theorem X34.rs : (X34 M).rs = [(.cell 2 24), (.tmp 3)] := rfl
@[go_sem] theorem X34.own : (X34 M).own = [] := rfl
@[go_sem] theorem X34.M0 : (X34 M).M0 = M := rfl
@[go_sem] theorem X34.ro : (X34 M).ro = none := rfl
end
theorem k34 : (Try.f34.name == "runtime.NumGoroutine") = false ∧ Try.f34.ntmps = 46 ∧ Try.f34.results.toList = [(.cell 2 24), (.tmp 3)] ∧ okC (X34 fun _ => none) ((Try.f34.body).getD .skip) = true ∧ c34.bare = slim (X34 fun _ => none) ((Try.f34.body).getD .skip) := ⟨by kernel_rfl, by kernel_rfl, by kernel_rfl, by kernel_rfl, by kernel_rfl⟩
theorem a34 {al : List AV} {M : Mem} {Q : AV → Mem → Prop} (hN : al.length ≤ 46) (h : SRuns (X34 M) [.code c34] (lk (num 0 al)) M [] Q) : ACalls Try.prog 34 al M Q := ACalls.of_slim c34 [] [] (tabOf_ok _) Try.func34 (by kernel_rfl : Try.f34.body = some ((Try.f34.body).getD .skip)) 46 [(.cell 2 24), (.tmp 3)] k34 hN h

-- antiquary/box.Join
@[go_sem] def r35_1 : List SOp := [
   ⟨some 2, .box 24 (.tmp 0), none⟩,
   ⟨some 3, .box 24 (.tmp 1), none⟩,
   ⟨some 4, .alloc 24, none⟩,
   ⟨some 5, .assign (.const (.int .i64 0)), none⟩]
@[go_sem] def r35_2 : List SOp := [
   ⟨some 6, .load 24 (.tmp 2), none⟩,
   ⟨some 7, .load 24 (.tmp 3), none⟩,
   ⟨some 8, .call { callee := (.value (.func 44)), args := #[(.tmp 6), (.tmp 7)], argTypes := #[24, 24] }, none⟩,
   ⟨some 9, .unOp .not 4 (.tmp 8), none⟩]
@[go_sem] def r35_3 : List SOp := [
   ⟨some 10, .build 24 #[], none⟩,
   ⟨none, .store 24 (.tmp 4) (.tmp 10), none⟩,
   ⟨some 5, .assign (.const (.int .i64 1)), none⟩]
def c35_4 : SC := .seq (.reg r35_3 [2, 3, 4, 5]) .ret
def c35_5 : SC := .cond (.tmp 9) c35_4 .skip
def c35_6 : SC := .seq (.reg r35_2 [2, 3, 4, 5, 9]) c35_5
@[go_sem] def r35_7 : List (SOp × List Nat) := [
   (⟨some 11, .fieldAddr 24 (.tmp 2) 0, none⟩, [2, 3, 5, 6, 7, 8]),
   (⟨some 12, .load 22 (.tmp 11), none⟩, [2, 3, 5, 6, 7, 8]),
   (⟨some 13, .fieldAddr 24 (.tmp 3) 0, none⟩, [0, 1, 5, 6, 7, 8]),
   (⟨some 14, .load 22 (.tmp 13), none⟩, [0, 1, 5, 6, 7, 8]),
   (⟨some 15, .call { callee := (.value (.func 48)), args := #[(.tmp 12), (.tmp 14), (.func 58)], argTypes := #[22, 22, 77] }, none⟩, [5, 6, 7, 8]),
   (⟨some 16, .fieldAddr 24 (.tmp 2) 1, none⟩, [0, 1, 2, 3, 4, 7, 8]),
   (⟨some 17, .load 22 (.tmp 16), none⟩, [0, 1, 2, 3, 4, 7, 8]),
   (⟨some 18, .fieldAddr 24 (.tmp 3) 1, none⟩, [0, 1, 2, 3, 4, 5, 6]),
   (⟨some 19, .load 22 (.tmp 18), none⟩, [0, 1, 2, 3, 4, 5, 6]),
   (⟨some 20, .call { callee := (.value (.func 48)), args := #[(.tmp 17), (.tmp 19), (.func 57)], argTypes := #[22, 22, 77] }, none⟩, []),
   (⟨some 21, .build 24 #[(0, (.tmp 15)), (1, (.tmp 20))], none⟩, []),
   (⟨none, .store 24 (.tmp 4) (.tmp 21), none⟩, []),
   (⟨some 5, .assign (.const (.int .i64 0)), none⟩, [])]
def c35_8 : SC := .seq (.draw r35_7 [4, 5]) .ret
def c35_9 : SC := .seq c35_6 c35_8
def c35_10 : SC := .seq (.reg r35_1 [2, 3, 4, 5]) c35_9
def c35 : SC := c35_10
noncomputable def X35 (M : Mem) : Fx := ⟨Try.prog, T, 22, 35, [(.cell 4 24), (.tmp 5)], [], [], M, none⟩
section
variable (M : Mem)
@[go_sem] theorem X35.P : (X35 M).P = Try.prog := rfl
@[go_sem] theorem X35.T : (X35 M).T = T := rfl
@[go_sem] theorem X35.N : (X35 M).N = 22 := rfl
@[go_sem] theorem X35.rs : (X35 M).rs = [(.cell 4 24), (.tmp 5)] := rfl
@[go_sem] theorem X35.own : (X35 M).own = [] := rfl
@[go_sem] theorem X35.M0 : (X35 M).M0 = M := rfl
@[go_sem] theorem X35.ro : (X35 M).ro = none := rfl
end
theorem k35 : (Try.f35.name == "runtime.NumGoroutine") = false ∧ Try.f35.ntmps = 22 ∧ Try.f35.results.toList = [(.cell 4 24), (.tmp 5)] ∧ okC (X35 fun _ => none) ((Try.f35.body).getD .skip) = true ∧ c35.bare = slim (X35 fun _ => none) ((Try.f35.body).getD .skip) := ⟨by kernel_rfl, by kernel_rfl, by kernel_rfl, by kernel_rfl, by kernel_rfl⟩
theorem a35 {al : List AV} {M : Mem} {Q : AV → Mem → Prop} (hN : al.length ≤ 22) (h : SRuns (X35 M) [.code c35] (lk (num 0 al)) M [] Q) : ACalls Try.prog 35 al M Q := ACalls.of_slim c35 [] [] (tabOf_ok _) Try.func35 (by kernel_rfl : Try.f35.body = some ((Try.f35.body).getD .skip)) 22 [(.cell 4 24), (.tmp 5)] k35 hN h

-- antiquary/antiquaryref06.Of
noncomputable def X36 (M : Mem) : Fx := ⟨Try.prog, T, 96, 36, [(.cell 2 65)], [], [], M, none⟩
section
variable (M : Mem)
@[go_sem] theorem X36.P : (X36 M).P = Try.prog := rfl
@[go_sem] theorem X36.T : (X36 M).T = T := rfl
@[go_sem] theorem X36.N : (X36 M).N = 96 := rfl
@[go_sem] theorem X36.rs : (X36 M).rs = [(.cell 2 65)] := rfl
@[go_sem] theorem X36.own : (X36 M).own = [] := rfl
@[go_sem] theorem X36.M0 : (X36 M).M0 = M := rfl
@[go_sem] theorem X36.ro : (X36 M).ro = none := rfl
end
-- antiquary/antiquaryref06.Join
noncomputable def X37 (M : Mem) : Fx := ⟨Try.prog, T, 22, 37, [(.cell 4 65)], [], [], M, none⟩
section
variable (M : Mem)
@[go_sem] theorem X37.P : (X37 M).P = Try.prog := rfl
@[go_sem] theorem X37.T : (X37 M).T = T := rfl
@[go_sem] theorem X37.N : (X37 M).N = 22 := rfl
@[go_sem] theorem X37.rs : (X37 M).rs = [(.cell 4 65)] := rfl
@[go_sem] theorem X37.own : (X37 M).own = [] := rfl
@[go_sem] theorem X37.M0 : (X37 M).M0 = M := rfl
@[go_sem] theorem X37.ro : (X37 M).ro = none := rfl
end
-- antiquary/antiquaryref06.Meet
noncomputable def X38 (M : Mem) : Fx := ⟨Try.prog, T, 63, 38, [(.cell 4 65)], [], [], M, none⟩
section
variable (M : Mem)
@[go_sem] theorem X38.P : (X38 M).P = Try.prog := rfl
@[go_sem] theorem X38.T : (X38 M).T = T := rfl
@[go_sem] theorem X38.N : (X38 M).N = 63 := rfl
@[go_sem] theorem X38.rs : (X38 M).rs = [(.cell 4 65)] := rfl
@[go_sem] theorem X38.own : (X38 M).own = [] := rfl
@[go_sem] theorem X38.M0 : (X38 M).M0 = M := rfl
@[go_sem] theorem X38.ro : (X38 M).ro = none := rfl
end
-- antiquary/antiquaryref06.Valid
noncomputable def X39 (M : Mem) : Fx := ⟨Try.prog, T, 41, 39, [(.tmp 2)], [], [], M, none⟩
section
variable (M : Mem)
@[go_sem] theorem X39.P : (X39 M).P = Try.prog := rfl
@[go_sem] theorem X39.T : (X39 M).T = T := rfl
@[go_sem] theorem X39.N : (X39 M).N = 41 := rfl
@[go_sem] theorem X39.rs : (X39 M).rs = [(.tmp 2)] := rfl
@[go_sem] theorem X39.own : (X39 M).own = [] := rfl
@[go_sem] theorem X39.M0 : (X39 M).M0 = M := rfl
@[go_sem] theorem X39.ro : (X39 M).ro = none := rfl
end
-- antiquary/antiquaryref06.Inside
noncomputable def X40 (M : Mem) : Fx := ⟨Try.prog, T, 23, 40, [(.tmp 4)], [], [], M, none⟩
section
variable (M : Mem)
@[go_sem] theorem X40.P : (X40 M).P = Try.prog := rfl
@[go_sem] theorem X40.T : (X40 M).T = T := rfl
@[go_sem] theorem X40.N : (X40 M).N = 23 := rfl
@[go_sem] theorem X40.rs : (X40 M).rs = [(.tmp 4)] := rfl
@[go_sem] theorem X40.own : (X40 M).own = [] := rfl
@[go_sem] theorem X40.M0 : (X40 M).M0 = M := rfl
@[go_sem] theorem X40.ro : (X40 M).ro = none := rfl
end
-- antiquary/box.measure
@[go_sem] def r41_1 : List SOp := [
   ⟨some 5, .box 24 (.tmp 1), none⟩,
   ⟨some 6, .box 22 (.tmp 2), none⟩,
   ⟨some 7, .box 71 (.tmp 3), none⟩,
   ⟨some 8, .assign (.const (.int .i64 0)), none⟩,
   ⟨some 9, .assign (.const (.int .i64 0)), none⟩]
@[go_sem] def r41_2 : List SOp := [
   ⟨some 12, .load 24 (.tmp 5), none⟩,
   ⟨some 13, .call { callee := (.value (.func 24)), args := #[(.tmp 12)], argTypes := #[24] }, none⟩,
   ⟨some 14, .unOp .not 4 (.tmp 13), none⟩,
   ⟨some 15, .move (.tmp 14), none⟩,
   ⟨some 16, .load 22 (.tmp 6), (some (some 15, false))⟩,
   ⟨some 17, .call { callee := (.value (.func 55)), args := #[(.tmp 16)], argTypes := #[22] }, (some (some 15, false))⟩,
   ⟨some 18, .unOp .not 4 (.tmp 17), (some (some 15, false))⟩,
   ⟨some 19, .pick (.tmp 15) (.const (.bool true)) (.tmp 18), none⟩,
   ⟨some 20, .move (.tmp 19), none⟩,
   ⟨some 21, .load 22 (.tmp 6), (some (some 20, false))⟩,
   ⟨some 22, .call { callee := (.builtin .len), args := #[(.tmp 21)], argTypes := #[22] }, (some (some 20, false))⟩,
   ⟨some 23, .fieldAddr 24 (.tmp 5) 0, (some (some 20, false))⟩,
   ⟨some 24, .load 22 (.tmp 23), (some (some 20, false))⟩,
   ⟨some 25, .call { callee := (.builtin .len), args := #[(.tmp 24)], argTypes := #[22] }, (some (some 20, false))⟩,
   ⟨some 26, .binOp .neq 3 (.tmp 22) (.tmp 25) 3, (some (some 20, false))⟩,
   ⟨some 27, .pick (.tmp 20) (.const (.bool true)) (.tmp 26), none⟩]
@[go_sem] def r41_3 : List SOp := [
   ⟨some 8, .assign (.const (.int .i64 0)), none⟩,
   ⟨some 9, .assign (.const (.int .i64 1)), none⟩]
def c41_4 : SC := .seq (.reg r41_3 [0, 5, 6, 7, 8, 9]) .ret
def c41_5 : SC := .cond (.tmp 27) c41_4 .skip
def c41_6 : SC := .seq (.reg r41_2 [0, 5, 6, 7, 8, 9, 27]) c41_5
@[go_sem] def r41_7 : List SOp := [
   ⟨some 29, .move (.tmp 0), none⟩,
   ⟨some 30, .makeFunc (.func 61) #[] #[(.tmp 6), (.tmp 7), (.tmp 5)], none⟩,
   ⟨some 31, .call { callee := (.value (.func 45)), args := #[(.tmp 29), (.tmp 30)], argTypes := #[3, 86] }, none⟩,
   ⟨some 28, .move (.tmp 31), none⟩,
   ⟨some 32, .extract (.tmp 28) 0, none⟩,
   ⟨some 33, .extract (.tmp 28) 1, none⟩,
   ⟨some 10, .assign (.tmp 32), none⟩,
   ⟨some 11, .assign (.tmp 33), none⟩]
@[go_sem] def r41_8 : List SOp := [
   ⟨some 34, .move (.tmp 11), none⟩,
   ⟨some 35, .unOp .not 4 (.tmp 34), none⟩]
@[go_sem] def r41_9 : List SOp := [
   ⟨some 8, .assign (.const (.int .i64 0)), none⟩,
   ⟨some 9, .assign (.const (.int .i64 1)), none⟩]
def c41_10 : SC := .seq (.reg r41_9 [8, 9, 10]) .ret
def c41_11 : SC := .cond (.tmp 35) c41_10 .skip
def c41_12 : SC := .seq (.reg r41_8 [8, 9, 10, 35]) c41_11
@[go_sem] def r41_13 : List SOp := [
   ⟨some 36, .move (.tmp 10), none⟩,
   ⟨some 8, .assign (.tmp 36), none⟩,
   ⟨some 9, .assign (.const (.int .i64 0)), none⟩]
def c41_14 : SC := .seq (.reg r41_13 [8, 9]) .ret
def c41_15 : SC := .seq c41_12 c41_14
def c41_16 : SC := .seq (.reg r41_7 [8, 9, 10, 11]) c41_15
def c41_17 : SC := .seq c41_6 c41_16
def c41_18 : SC := .seq (.reg r41_1 [0, 5, 6, 7, 8, 9]) c41_17
def c41 : SC := c41_18
noncomputable def X41 (M : Mem) : Fx := ⟨Try.prog, T, 37, 41, [(.tmp 8), (.tmp 9)], [], [], M, none⟩
section
variable (M : Mem)
@[go_sem] theorem X41.P : (X41 M).P = Try.prog := rfl
@[go_sem] theorem X41.T : (X41 M).T = T := rfl
@[go_sem] theorem X41.N : (X41 M).N = 37 := rfl
@[go_sem] theorem X41.rs : (X41 M).rs = [(.tmp 8), (.tmp 9)] := rfl
@[go_sem] theorem X41.own : (X41 M).own = [] := rfl
@[go_sem] theorem X41.M0 : (X41 M).M0 = M := rfl
@[go_sem] theorem X41.ro : (X41 M).ro = none := rfl
end
theorem k41 : (Try.f41.name == "runtime.NumGoroutine") = false ∧ Try.f41.ntmps = 37 ∧ Try.f41.results.toList = [(.tmp 8), (.tmp 9)] ∧ okC (X41 fun _ => none) ((Try.f41.body).getD .skip) = true ∧ c41.bare = slim (X41 fun _ => none) ((Try.f41.body).getD .skip) := ⟨by kernel_rfl, by kernel_rfl, by kernel_rfl, by kernel_rfl, by kernel_rfl⟩
theorem a41 {al : List AV} {M : Mem} {Q : AV → Mem → Prop} (hN : al.length ≤ 37) (h : SRuns (X41 M) [.code c41] (lk (num 0 al)) M [] Q) : ACalls Try.prog 41 al M Q := ACalls.of_slim c41 [] [] (tabOf_ok _) Try.func41 (by kernel_rfl : Try.f41.body = some ((Try.f41.body).getD .skip)) 37 [(.tmp 8), (.tmp 9)] k41 hN h

-- antiquary/box.Near$1
@[go_sem] def r42_1 : List SOp := [
   ⟨some 6, .assign (.const (.int .i64 0)), none⟩]
@[go_sem] def r42_2 : List SOp := [
   ⟨some 7, .move (.tmp 0), none⟩,
   ⟨some 8, .move (.tmp 2), none⟩,
   ⟨some 9, .binOp .sub 3 (.tmp 7) (.tmp 8) 3, none⟩,
   ⟨some 10, .move (.tmp 2), none⟩,
   ⟨some 11, .move (.tmp 1), none⟩,
   ⟨some 12, .binOp .sub 3 (.tmp 10) (.tmp 11) 3, none⟩,
   ⟨some 13, .call { callee := (.builtin .max), args := #[(.const (.int .i64 0)), (.tmp 9), (.tmp 12)], argTypes := #[3, 3, 3] }, none⟩,
   ⟨some 6, .assign (.tmp 13), none⟩]
def c42_3 : SC := .seq (.reg r42_2 [6]) .ret
def c42_4 : SC := .seq (.reg r42_1 [0, 1, 2, 6]) c42_3
def c42 : SC := c42_4
noncomputable def X42 (M : Mem) : Fx := ⟨Try.prog, T, 14, 42, [(.tmp 6)], [], [], M, none⟩
section
variable (M : Mem)
@[go_sem] theorem X42.P : (X42 M).P = Try.prog := rfl
@[go_sem] theorem X42.T : (X42 M).T = T := rfl
@[go_sem] theorem X42.N : (X42 M).N = 14 := rfl
@[go_sem] theorem X42.rs : (X42 M).rs = [(.tmp 6)] := rfl
@[go_sem] theorem X42.own : (X42 M).own = [] := rfl
@[go_sem] theorem X42.M0 : (X42 M).M0 = M := rfl
@[go_sem] theorem X42.ro : (X42 M).ro = none := rfl
end
theorem k42 : (Try.f42.name == "runtime.NumGoroutine") = false ∧ Try.f42.ntmps = 14 ∧ Try.f42.results.toList = [(.tmp 6)] ∧ okC (X42 fun _ => none) ((Try.f42.body).getD .skip) = true ∧ c42.bare = slim (X42 fun _ => none) ((Try.f42.body).getD .skip) := ⟨by kernel_rfl, by kernel_rfl, by kernel_rfl, by kernel_rfl, by kernel_rfl⟩
theorem a42 {al : List AV} {M : Mem} {Q : AV → Mem → Prop} (hN : al.length ≤ 14) (h : SRuns (X42 M) [.code c42] (lk (num 0 al)) M [] Q) : ACalls Try.prog 42 al M Q := ACalls.of_slim c42 [] [] (tabOf_ok _) Try.func42 (by kernel_rfl : Try.f42.body = some ((Try.f42.body).getD .skip)) 14 [(.tmp 6)] k42 hN h

-- antiquary/box.Far$1
@[go_sem] def r43_1 : List SOp := [
   ⟨some 6, .assign (.const (.int .i64 0)), none⟩]
@[go_sem] def r43_2 : List SOp := [
   ⟨some 7, .move (.tmp 1), none⟩,
   ⟨some 8, .move (.tmp 2), none⟩,
   ⟨some 9, .binOp .sub 3 (.tmp 7) (.tmp 8) 3, none⟩,
   ⟨some 10, .move (.tmp 2), none⟩,
   ⟨some 11, .move (.tmp 0), none⟩,
   ⟨some 12, .binOp .sub 3 (.tmp 10) (.tmp 11) 3, none⟩,
   ⟨some 13, .call { callee := (.builtin .max), args := #[(.tmp 9), (.tmp 12)], argTypes := #[3, 3] }, none⟩,
   ⟨some 6, .assign (.tmp 13), none⟩]
def c43_3 : SC := .seq (.reg r43_2 [6]) .ret
def c43_4 : SC := .seq (.reg r43_1 [0, 1, 2, 6]) c43_3
def c43 : SC := c43_4
noncomputable def X43 (M : Mem) : Fx := ⟨Try.prog, T, 14, 43, [(.tmp 6)], [], [], M, none⟩
section
variable (M : Mem)
@[go_sem] theorem X43.P : (X43 M).P = Try.prog := rfl
@[go_sem] theorem X43.T : (X43 M).T = T := rfl
@[go_sem] theorem X43.N : (X43 M).N = 14 := rfl
@[go_sem] theorem X43.rs : (X43 M).rs = [(.tmp 6)] := rfl
@[go_sem] theorem X43.own : (X43 M).own = [] := rfl
@[go_sem] theorem X43.M0 : (X43 M).M0 = M := rfl
@[go_sem] theorem X43.ro : (X43 M).ro = none := rfl
end
theorem k43 : (Try.f43.name == "runtime.NumGoroutine") = false ∧ Try.f43.ntmps = 14 ∧ Try.f43.results.toList = [(.tmp 6)] ∧ okC (X43 fun _ => none) ((Try.f43.body).getD .skip) = true ∧ c43.bare = slim (X43 fun _ => none) ((Try.f43.body).getD .skip) := ⟨by kernel_rfl, by kernel_rfl, by kernel_rfl, by kernel_rfl, by kernel_rfl⟩
theorem a43 {al : List AV} {M : Mem} {Q : AV → Mem → Prop} (hN : al.length ≤ 14) (h : SRuns (X43 M) [.code c43] (lk (num 0 al)) M [] Q) : ACalls Try.prog 43 al M Q := ACalls.of_slim c43 [] [] (tabOf_ok _) Try.func43 (by kernel_rfl : Try.f43.body = some ((Try.f43.body).getD .skip)) 14 [(.tmp 6)] k43 hN h

-- antiquary/box.alike
@[go_sem] def r44_1 : List SOp := [
   ⟨some 2, .box 24 (.tmp 0), none⟩,
   ⟨some 3, .box 24 (.tmp 1), none⟩,
   ⟨some 4, .assign (.const (.bool false)), none⟩]
@[go_sem] def r44_2 : List SOp := [
   ⟨some 5, .load 24 (.tmp 2), none⟩,
   ⟨some 6, .call { callee := (.value (.func 24)), args := #[(.tmp 5)], argTypes := #[24] }, none⟩,
   ⟨some 7, .move (.tmp 6), none⟩,
   ⟨some 8, .load 24 (.tmp 3), (some (some 7, true))⟩,
   ⟨some 9, .call { callee := (.value (.func 24)), args := #[(.tmp 8)], argTypes := #[24] }, (some (some 7, true))⟩,
   ⟨some 10, .pick (.tmp 7) (.tmp 9) (.const (.bool false)), none⟩,
   ⟨some 11, .move (.tmp 10), none⟩,
   ⟨some 12, .fieldAddr 24 (.tmp 2) 0, (some (some 11, true))⟩,
   ⟨some 13, .load 22 (.tmp 12), (some (some 11, true))⟩,
   ⟨some 14, .call { callee := (.builtin .len), args := #[(.tmp 13)], argTypes := #[22] }, (some (some 11, true))⟩,
   ⟨some 15, .fieldAddr 24 (.tmp 3) 0, (some (some 11, true))⟩,
   ⟨some 16, .load 22 (.tmp 15), (some (some 11, true))⟩,
   ⟨some 17, .call { callee := (.builtin .len), args := #[(.tmp 16)], argTypes := #[22] }, (some (some 11, true))⟩,
   ⟨some 18, .binOp .eql 3 (.tmp 14) (.tmp 17) 3, (some (some 11, true))⟩,
   ⟨some 19, .pick (.tmp 11) (.tmp 18) (.const (.bool false)), none⟩,
   ⟨some 4, .assign (.tmp 19), none⟩]
def c44_3 : SC := .seq (.reg r44_2 [4]) .ret
def c44_4 : SC := .seq (.reg r44_1 [2, 3, 4]) c44_3
def c44 : SC := c44_4
noncomputable def X44 (M : Mem) : Fx := ⟨Try.prog, T, 20, 44, [(.tmp 4)], [], [], M, none⟩
section
variable (M : Mem)
@[go_sem] theorem X44.P : (X44 M).P = Try.prog := rfl
@[go_sem] theorem X44.T : (X44 M).T = T := rfl
@[go_sem] theorem X44.N : (X44 M).N = 20 := rfl
@[go_sem] theorem X44.rs : (X44 M).rs = [(.tmp 4)] := rfl
@[go_sem] theorem X44.own : (X44 M).own = [] := rfl
@[go_sem] theorem X44.M0 : (X44 M).M0 = M := rfl
@[go_sem] theorem X44.ro : (X44 M).ro = none := rfl
end
theorem k44 : (Try.f44.name == "runtime.NumGoroutine") = false ∧ Try.f44.ntmps = 20 ∧ Try.f44.results.toList = [(.tmp 4)] ∧ okC (X44 fun _ => none) ((Try.f44.body).getD .skip) = true ∧ c44.bare = slim (X44 fun _ => none) ((Try.f44.body).getD .skip) := ⟨by kernel_rfl, by kernel_rfl, by kernel_rfl, by kernel_rfl, by kernel_rfl⟩
theorem a44 {al : List AV} {M : Mem} {Q : AV → Mem → Prop} (hN : al.length ≤ 20) (h : SRuns (X44 M) [.code c44] (lk (num 0 al)) M [] Q) : ACalls Try.prog 44 al M Q := ACalls.of_slim c44 [] [] (tabOf_ok _) Try.func44 (by kernel_rfl : Try.f44.body = some ((Try.f44.body).getD .skip)) 20 [(.tmp 4)] k44 hN h

-- antiquary/box.key
@[go_sem] def r45_1 : List SOp := [
   ⟨some 4, .assign (.const (.int .i64 0)), none⟩,
   ⟨some 5, .assign (.const (.bool false)), none⟩]
@[go_sem] def r45_2 : List SOp := [
   ⟨some 6, .alloc 3, none⟩,
   ⟨none, .store 3 (.tmp 6) (.const (.int .i64 0)), none⟩]
@[go_sem] def r45_3 : List SOp := [
   ⟨some 9, .makeFunc (.func 62) #[] #[(.tmp 6)], none⟩,
   ⟨some 7, .alloc 87, none⟩,
   ⟨none, .store 87 (.tmp 7) (.tmp 9), none⟩]
@[go_sem] def r45_4 : List SOp := [
   ⟨some 10, .move (.tmp 0), none⟩]
@[go_sem] def r45_5 : List SOp := [
   ⟨some 12, .binOp .eql 3 (.tmp 10) (.const (.int .i64 1)) 3, none⟩,
   ⟨some 11, .assign (.tmp 12), none⟩]
@[go_sem] def r45_6 : List SOp := [
   ⟨some 14, .binOp .eql 3 (.tmp 10) (.const (.int .i64 2)) 3, none⟩,
   ⟨some 13, .assign (.tmp 14), none⟩]
@[go_sem] def r45_7 : List SOp := [
   ⟨some 15, .makeFunc (.func 63) #[] #[(.tmp 6)], none⟩,
   ⟨none, .store 87 (.tmp 7) (.tmp 15), none⟩]
@[go_sem] def r45_8 : List SOp := [
   ⟨some 17, .binOp .eql 3 (.tmp 10) (.const (.int .i64 3)) 3, none⟩,
   ⟨some 16, .assign (.tmp 17), none⟩]
@[go_sem] def r45_9 : List SOp := [
   ⟨some 18, .makeFunc (.func 64) #[] #[(.tmp 6)], none⟩,
   ⟨none, .store 87 (.tmp 7) (.tmp 18), none⟩]
@[go_sem] def r45_10 : List SOp := [
   ⟨some 4, .assign (.const (.int .i64 0)), none⟩,
   ⟨some 5, .assign (.const (.bool false)), none⟩]
def c45_11 : SC := .seq (.reg r45_10 [1, 4, 5, 6, 7]) .ret
def c45_12 : SC := .cond (.tmp 16) (.reg r45_9 [1, 4, 5, 6, 7]) c45_11
def c45_13 : SC := .seq (.reg r45_8 [1, 4, 5, 6, 7, 16]) c45_12
def c45_14 : SC := .cond (.tmp 13) (.reg r45_7 [1, 4, 5, 6, 7, 10]) c45_13
def c45_15 : SC := .seq (.reg r45_6 [1, 4, 5, 6, 7, 10, 13]) c45_14
def c45_16 : SC := .cond (.tmp 11) .skip c45_15
def c45_17 : SC := .seq (.reg r45_5 [1, 4, 5, 6, 7, 10, 11]) c45_16
def c45_18 : SC := .seq (.reg r45_4 [1, 4, 5, 6, 7, 10]) (.block 0 c45_17)
@[go_sem] def r45_19 : List SOp := [
   ⟨some 19, .move (.tmp 1), none⟩]
@[go_sem] def r45_20 : List SOp := [
   ⟨some 8, .assign (.tmp 20), none⟩]
@[go_sem] def r45_21 : List SOp := [
   ⟨some 21, .load 87 (.tmp 7), none⟩,
   ⟨some 22, .move (.tmp 8), none⟩,
   ⟨some 23, .call { callee := (.value (.tmp 21)), args := #[(.tmp 22)], argTypes := #[3] }, none⟩]
def c45_22 : SC := .range (.tmp 19) #[20] (.reg r45_20 [4, 5, 6, 7, 8]) (.block 2 (.reg r45_21 [4, 5, 6, 7]))
def c45_23 : SC := .seq (.reg r45_19 [4, 5, 6, 7, 19]) (.block 1 c45_22)
@[go_sem] def r45_24 : List SOp := [
   ⟨some 24, .load 3 (.tmp 6), none⟩,
   ⟨some 4, .assign (.tmp 24), none⟩,
   ⟨some 5, .assign (.const (.bool true)), none⟩]
def c45_25 : SC := .seq (.reg r45_24 [4, 5]) .ret
def c45_26 : SC := .seq c45_23 c45_25
def c45_27 : SC := .seq c45_18 c45_26
def c45_28 : SC := .seq (.reg r45_3 [0, 1, 4, 5, 6, 7]) c45_27
def c45_29 : SC := .seq (.reg r45_2 [0, 1, 4, 5, 6]) c45_28
def c45_30 : SC := .seq (.reg r45_1 [0, 1, 4, 5]) c45_29
def c45 : SC := c45_30
noncomputable def X45 (M : Mem) : Fx := ⟨Try.prog, T, 25, 45, [(.tmp 4), (.tmp 5)], [], [], M, none⟩
section
variable (M : Mem)
@[go_sem] theorem X45.P : (X45 M).P = Try.prog := rfl
@[go_sem] theorem X45.T : (X45 M).T = T := rfl
@[go_sem] theorem X45.N : (X45 M).N = 25 := rfl
@[go_sem] theorem X45.rs : (X45 M).rs = [(.tmp 4), (.tmp 5)] := rfl
@[go_sem] theorem X45.own : (X45 M).own = [] := rfl
@[go_sem] theorem X45.M0 : (X45 M).M0 = M := rfl
@[go_sem] theorem X45.ro : (X45 M).ro = none := rfl
end
theorem k45 : (Try.f45.name == "runtime.NumGoroutine") = false ∧ Try.f45.ntmps = 25 ∧ Try.f45.results.toList = [(.tmp 4), (.tmp 5)] ∧ okC (X45 fun _ => none) ((Try.f45.body).getD .skip) = true ∧ c45.bare = slim (X45 fun _ => none) ((Try.f45.body).getD .skip) := ⟨by kernel_rfl, by kernel_rfl, by kernel_rfl, by kernel_rfl, by kernel_rfl⟩
theorem a45 {al : List AV} {M : Mem} {Q : AV → Mem → Prop} (hN : al.length ≤ 25) (h : SRuns (X45 M) [.code c45] (lk (num 0 al)) M [] Q) : ACalls Try.prog 45 al M Q := ACalls.of_slim c45 [] [] (tabOf_ok _) Try.func45 (by kernel_rfl : Try.f45.body = some ((Try.f45.body).getD .skip)) 25 [(.tmp 4), (.tmp 5)] k45 hN h

-- antiquary/box.Apart$1
@[go_sem] def r46_1 : List SOp := [
   ⟨some 5, .fieldAddr 24 (.tmp 1) 0, none⟩,
   ⟨some 6, .load 22 (.tmp 5), none⟩,
   ⟨some 7, .call { callee := (.builtin .len), args := #[(.tmp 6)], argTypes := #[22] }, none⟩,
   ⟨some 8, .move (.const (.int .i64 0)), none⟩]
@[go_sem] def r46_2 : List SOp := [
   ⟨some 9, .binOp .lss 3 (.tmp 8) (.tmp 7) 3, none⟩]
def c46_3 : SC := .cond (.tmp 9) .skip (.exit 0)
@[go_sem] def r46_4 : List SOp := [
   ⟨some 10, .move (.tmp 8), none⟩,
   ⟨some 4, .assign (.tmp 10), none⟩]
@[go_sem] def r46_5 : List (SOp × List Nat) := [
   (⟨some 11, .move (.tmp 0), none⟩, [1, 2, 3, 4, 5, 6, 7, 8, 9, 10, 11, 12, 13, 14, 15, 16, 17, 18, 19, 20, 21, 22, 23]),
   (⟨some 12, .fieldAddr 24 (.tmp 1) 0, none⟩, [0, 3, 6, 7, 8, 9, 10, 12, 13, 14, 15, 16, 17, 18, 19, 20, 21, 22]),
   (⟨some 13, .load 22 (.tmp 12), none⟩, [0, 3, 6, 7, 8, 9, 10, 12, 13, 14, 15, 16, 17, 18, 19, 20, 21, 22]),
   (⟨some 14, .move (.tmp 4), none⟩, [0, 1, 2, 6, 7, 8, 9, 10, 12, 13, 14, 15, 16, 17, 18, 19, 20, 21, 22]),
   (⟨some 15, .indexAddr 22 (.tmp 13) (.tmp 14), none⟩, [0, 6, 7, 8, 9, 10, 12, 13, 14, 15, 16, 17, 18, 19, 20, 21, 22]),
   (⟨some 16, .load 3 (.tmp 15), none⟩, [0, 6, 7, 8, 9, 10, 12, 13, 14, 15, 16, 17, 18, 19, 20, 21, 22]),
   (⟨some 17, .fieldAddr 24 (.tmp 2) 1, none⟩, [0, 1, 2, 3, 4, 5, 8, 12, 13, 14, 15, 16, 17, 18, 19, 20, 21, 22]),
   (⟨some 18, .load 22 (.tmp 17), none⟩, [0, 1, 2, 3, 4, 5, 8, 12, 13, 14, 15, 16, 17, 18, 19, 20, 21, 22]),
   (⟨some 19, .move (.tmp 4), none⟩, [0, 1, 2, 3, 4, 5, 6, 7, 12, 13, 14, 15, 16, 17, 18, 19, 20, 21, 22]),
   (⟨some 20, .indexAddr 22 (.tmp 18) (.tmp 19), none⟩, [0, 1, 2, 3, 4, 5, 12, 13, 14, 15, 16, 17, 18, 19, 20, 21, 22]),
   (⟨some 21, .load 3 (.tmp 20), none⟩, [0, 1, 2, 3, 4, 5, 12, 13, 14, 15, 16, 17, 18, 19, 20, 21, 22]),
   (⟨some 22, .binOp .sub 3 (.tmp 16) (.tmp 21) 3, none⟩, [0, 12, 13, 14, 15, 16, 17, 18, 19, 20, 21, 22]),
   (⟨some 23, .fieldAddr 24 (.tmp 2) 0, none⟩, [0, 1, 2, 3, 4, 5, 6, 7, 8, 9, 10, 11, 14, 17, 18, 19, 20, 21]),
   (⟨some 24, .load 22 (.tmp 23), none⟩, [0, 1, 2, 3, 4, 5, 6, 7, 8, 9, 10, 11, 14, 17, 18, 19, 20, 21]),
   (⟨some 25, .move (.tmp 4), none⟩, [0, 1, 2, 3, 4, 5, 6, 7, 8, 9, 10, 11, 12, 13, 17, 18, 19, 20, 21]),
   (⟨some 26, .indexAddr 22 (.tmp 24) (.tmp 25), none⟩, [0, 1, 2, 3, 4, 5, 6, 7, 8, 9, 10, 11, 17, 18, 19, 20, 21]),
   (⟨some 27, .load 3 (.tmp 26), none⟩, [0, 1, 2, 3, 4, 5, 6, 7, 8, 9, 10, 11, 17, 18, 19, 20, 21]),
   (⟨some 28, .fieldAddr 24 (.tmp 1) 1, none⟩, [0, 1, 2, 3, 4, 5, 6, 7, 8, 9, 10, 11, 12, 13, 14, 15, 16, 19]),
   (⟨some 29, .load 22 (.tmp 28), none⟩, [0, 1, 2, 3, 4, 5, 6, 7, 8, 9, 10, 11, 12, 13, 14, 15, 16, 19]),
   (⟨some 30, .move (.tmp 4), none⟩, [0, 1, 2, 3, 4, 5, 6, 7, 8, 9, 10, 11, 12, 13, 14, 15, 16, 17, 18]),
   (⟨some 31, .indexAddr 22 (.tmp 29) (.tmp 30), none⟩, [0, 1, 2, 3, 4, 5, 6, 7, 8, 9, 10, 11, 12, 13, 14, 15, 16]),
   (⟨some 32, .load 3 (.tmp 31), none⟩, [0, 1, 2, 3, 4, 5, 6, 7, 8, 9, 10, 11, 12, 13, 14, 15, 16]),
   (⟨some 33, .binOp .sub 3 (.tmp 27) (.tmp 32) 3, none⟩, [0, 1, 2, 3, 4, 5, 6, 7, 8, 9, 10, 11]),
   (⟨some 34, .call { callee := (.builtin .max), args := #[(.const (.int .i64 0)), (.tmp 22), (.tmp 33)], argTypes := #[3, 3, 3] }, none⟩, [0]),
   (⟨some 35, .call { callee := (.value (.tmp 11)), args := #[(.tmp 34)], argTypes := #[3] }, none⟩, []),
   (⟨some 36, .unOp .not 4 (.tmp 35), none⟩, [])]
def c46_6 : SC := .cond (.tmp 36) .ret .skip
def c46_7 : SC := .seq (.draw r46_5 [0, 1, 2, 7, 8, 36]) c46_6
def c46_8 : SC := .seq (.reg r46_4 [0, 1, 2, 4, 7, 8]) c46_7
@[go_sem] def r46_9 : List SOp := [
   ⟨some 37, .binOp .add 3 (.tmp 8) (.const (.int .i64 1)) 3, none⟩,
   ⟨some 8, .move (.tmp 37), none⟩]
def c46_10 : SC := .seq (.block 1 c46_8) (.reg r46_9 [0, 1, 2, 7, 8])
def c46_11 : SC := .seq c46_3 c46_10
def c46_12 : SC := .seq (.reg r46_2 [0, 1, 2, 7, 8, 9]) c46_11
def c46_13 : SC := .seq (.reg r46_1 [0, 1, 2, 7, 8]) (.block 0 (.loop c46_12))
def c46 : SC := c46_13
noncomputable def X46 (M : Mem) : Fx := ⟨Try.prog, T, 38, 46, [], [], [], M, none⟩
section
variable (M : Mem)
@[go_sem] theorem X46.P : (X46 M).P = Try.prog := rfl
@[go_sem] theorem X46.T : (X46 M).T = T := rfl
@[go_sem] theorem X46.N : (X46 M).N = 38 := rfl
@[go_sem] theorem X46.rs : (X46 M).rs = [] := rfl
@[go_sem] theorem X46.own : (X46 M).own = [] := rfl
@[go_sem] theorem X46.M0 : (X46 M).M0 = M := rfl
@[go_sem] theorem X46.ro : (X46 M).ro = none := rfl
end
theorem k46 : (Try.f46.name == "runtime.NumGoroutine") = false ∧ Try.f46.ntmps = 38 ∧ Try.f46.results.toList = [] ∧ okC (X46 fun _ => none) ((Try.f46.body).getD .skip) = true ∧ c46.bare = slim (X46 fun _ => none) ((Try.f46.body).getD .skip) := ⟨by kernel_rfl, by kernel_rfl, by kernel_rfl, by kernel_rfl, by kernel_rfl⟩
theorem a46 {al : List AV} {M : Mem} {Q : AV → Mem → Prop} (hN : al.length ≤ 38) (h : SRuns (X46 M) [.code c46] (lk (num 0 al)) M [] Q) : ACalls Try.prog 46 al M Q := ACalls.of_slim c46 [] [] (tabOf_ok _) Try.func46 (by kernel_rfl : Try.f46.body = some ((Try.f46.body).getD .skip)) 38 [] k46 hN h

-- slices.Clone[[]int,int]
@[go_sem] def r47_1 : List SOp := [
   ⟨some 2, .assign (.const (.slice none 0 0)), none⟩]
@[go_sem] def r47_2 : List SOp := [
   ⟨some 3, .move (.tmp 0), none⟩,
   ⟨some 4, .binOp .eql 22 (.tmp 3) (.const (.slice none 0 0)) 22, none⟩]
@[go_sem] def r47_3 : List SOp := [
   ⟨some 2, .assign (.const (.slice none 0 0)), none⟩]
def c47_4 : SC := .seq (.reg r47_3 [0, 2]) .ret
def c47_5 : SC := .cond (.tmp 4) c47_4 .skip
def c47_6 : SC := .seq (.reg r47_2 [0, 2, 4]) c47_5
@[go_sem] def r47_7 : List SOp := [
   ⟨some 5, .buildSlice 22 0 #[], none⟩,
   ⟨some 6, .move (.tmp 0), none⟩,
   ⟨some 7, .call { callee := (.builtin .append), args := #[(.tmp 5), (.tmp 6)], argTypes := #[22, 22] }, none⟩,
   ⟨some 2, .assign (.tmp 7), none⟩]
def c47_8 : SC := .seq (.reg r47_7 [2]) .ret
def c47_9 : SC := .seq c47_6 c47_8
def c47_10 : SC := .seq (.reg r47_1 [0, 2]) c47_9
def c47 : SC := c47_10
noncomputable def X47 (M : Mem) : Fx := ⟨Try.prog, T, 8, 47, [(.tmp 2)], [5], [], M, none⟩
section
variable (M : Mem)
@[go_sem] theorem X47.P : (X47 M).P = Try.prog := rfl
@[go_sem] theorem X47.T : (X47 M).T = T := rfl
@[go_sem] theorem X47.N : (X47 M).N = 8 := rfl
@[go_sem] theorem X47.rs : (X47 M).rs = [(.tmp 2)] := rfl
@[go_sem] theorem X47.own : (X47 M).own = [5] := rfl
@[go_sem] theorem X47.M0 : (X47 M).M0 = M := rfl
@[go_sem] theorem X47.ro : (X47 M).ro = none := rfl
end
theorem k47 : (Try.f47.name == "runtime.NumGoroutine") = false ∧ Try.f47.ntmps = 8 ∧ Try.f47.results.toList = [(.tmp 2)] ∧ okC (X47 fun _ => none) ((Try.f47.body).getD .skip) = true ∧ c47.bare = slim (X47 fun _ => none) ((Try.f47.body).getD .skip) := ⟨by kernel_rfl, by kernel_rfl, by kernel_rfl, by kernel_rfl, by kernel_rfl⟩
theorem a47 {al : List AV} {M : Mem} {Q : AV → Mem → Prop} (hN : al.length ≤ 8) (h : SRuns (X47 M) [.code c47] (lk (num 0 al)) M [] Q) : ACalls Try.prog 47 al M Q := ACalls.of_slim c47 [5] [] (tabOf_ok _) Try.func47 (by kernel_rfl : Try.f47.body = some ((Try.f47.body).getD .skip)) 8 [(.tmp 2)] k47 hN h

-- antiquary/box.zip[int]
@[go_sem] def r48_1 : List SOp := [
   ⟨some 6, .assign (.const (.slice none 0 0)), none⟩]
@[go_sem] def r48_2 : List SOp := [
   ⟨some 7, .assign (.const (.slice none 0 0)), none⟩]
@[go_sem] def r48_3 : List SOp := [
   ⟨some 9, .move (.tmp 0), none⟩,
   ⟨some 10, .call { callee := (.builtin .len), args := #[(.tmp 9)], argTypes := #[22] }, none⟩,
   ⟨some 11, .move (.const (.int .i64 0)), none⟩]
@[go_sem] def r48_4 : List SOp := [
   ⟨some 12, .binOp .lss 3 (.tmp 11) (.tmp 10) 3, none⟩]
def c48_5 : SC := .cond (.tmp 12) .skip (.exit 0)
@[go_sem] def r48_6 : List SOp := [
   ⟨some 13, .move (.tmp 11), none⟩,
   ⟨some 8, .assign (.tmp 13), none⟩]
@[go_sem] def r48_7 : List (SOp × List Nat) := [
   (⟨some 14, .move (.tmp 7), none⟩, [1, 2, 3, 4, 5, 6, 7, 8, 9, 10, 11]),
   (⟨some 15, .move (.tmp 2), none⟩, [0, 2, 3, 4, 5, 6, 7, 8, 9]),
   (⟨some 16, .move (.tmp 0), none⟩, [0, 1, 3, 6, 7, 8, 9]),
   (⟨some 17, .move (.tmp 8), none⟩, [0, 1, 2, 6, 7, 8, 9]),
   (⟨some 18, .indexAddr 22 (.tmp 16) (.tmp 17), none⟩, [0, 1, 6, 7, 8, 9]),
   (⟨some 19, .load 3 (.tmp 18), none⟩, [0, 1, 6, 7, 8, 9]),
   (⟨some 20, .move (.tmp 1), none⟩, [0, 1, 2, 3, 4, 5, 7]),
   (⟨some 21, .move (.tmp 8), none⟩, [0, 1, 2, 3, 4, 5, 6]),
   (⟨some 22, .indexAddr 22 (.tmp 20) (.tmp 21), none⟩, [0, 1, 2, 3, 4, 5]),
   (⟨some 23, .load 3 (.tmp 22), none⟩, [0, 1, 2, 3, 4, 5]),
   (⟨some 24, .call { callee := (.value (.tmp 15)), args := #[(.tmp 19), (.tmp 23)], argTypes := #[3, 3] }, none⟩, [0]),
   (⟨some 25, .buildSlice 22 1 #[(0, (.tmp 24))], none⟩, [0]),
   (⟨some 26, .call { callee := (.builtin .append), args := #[(.tmp 14), (.tmp 25)], argTypes := #[22, 22] }, none⟩, []),
   (⟨some 7, .assign (.tmp 26), none⟩, [])]
def c48_8 : SC := .seq (.reg r48_6 [0, 1, 2, 6, 7, 8, 10, 11]) (.draw r48_7 [0, 1, 2, 6, 7, 10, 11])
@[go_sem] def r48_9 : List SOp := [
   ⟨some 27, .binOp .add 3 (.tmp 11) (.const (.int .i64 1)) 3, none⟩,
   ⟨some 11, .move (.tmp 27), none⟩]
def c48_10 : SC := .seq (.block 1 c48_8) (.reg r48_9 [0, 1, 2, 6, 7, 10, 11])
def c48_11 : SC := .seq c48_5 c48_10
def c48_12 : SC := .seq (.reg r48_4 [0, 1, 2, 6, 7, 10, 11, 12]) c48_11
def c48_13 : SC := .seq (.reg r48_3 [0, 1, 2, 6, 7, 10, 11]) (.block 0 (.loop c48_12))
@[go_sem] def r48_14 : List SOp := [
   ⟨some 28, .move (.tmp 7), none⟩,
   ⟨some 6, .assign (.tmp 28), none⟩]
def c48_15 : SC := .seq (.reg r48_14 [6]) .ret
def c48_16 : SC := .seq c48_13 c48_15
def c48_17 : SC := .seq (.reg r48_2 [0, 1, 2, 6, 7]) c48_16
def c48_18 : SC := .seq (.reg r48_1 [0, 1, 2, 6]) c48_17
def c48 : SC := c48_18
noncomputable def X48 (M : Mem) : Fx := ⟨Try.prog, T, 29, 48, [(.tmp 6)], [], [], M, none⟩
section
variable (M : Mem)
@[go_sem] theorem X48.P : (X48 M).P = Try.prog := rfl
@[go_sem] theorem X48.T : (X48 M).T = T := rfl
@[go_sem] theorem X48.N : (X48 M).N = 29 := rfl
@[go_sem] theorem X48.rs : (X48 M).rs = [(.tmp 6)] := rfl
@[go_sem] theorem X48.own : (X48 M).own = [] := rfl
@[go_sem] theorem X48.M0 : (X48 M).M0 = M := rfl
@[go_sem] theorem X48.ro : (X48 M).ro = none := rfl
end
theorem k48 : (Try.f48.name == "runtime.NumGoroutine") = false ∧ Try.f48.ntmps = 29 ∧ Try.f48.results.toList = [(.tmp 6)] ∧ okC (X48 fun _ => none) ((Try.f48.body).getD .skip) = true ∧ c48.bare = slim (X48 fun _ => none) ((Try.f48.body).getD .skip) := ⟨by kernel_rfl, by kernel_rfl, by kernel_rfl, by kernel_rfl, by kernel_rfl⟩
theorem a48 {al : List AV} {M : Mem} {Q : AV → Mem → Prop} (hN : al.length ≤ 29) (h : SRuns (X48 M) [.code c48] (lk (num 0 al)) M [] Q) : ACalls Try.prog 48 al M Q := ACalls.of_slim c48 [] [] (tabOf_ok _) Try.func48 (by kernel_rfl : Try.f48.body = some ((Try.f48.body).getD .skip)) 29 [(.tmp 6)] k48 hN h

-- antiquary/box.Split$1
@[go_sem] def r49_1 : List SOp := [
   ⟨some 4, .assign (.const (.int .i64 0)), none⟩]
@[go_sem] def r49_2 : List SOp := [
   ⟨some 5, .move (.tmp 0), none⟩,
   ⟨some 6, .move (.tmp 1), none⟩,
   ⟨some 7, .binOp .sub 3 (.tmp 5) (.tmp 6) 3, none⟩,
   ⟨some 4, .assign (.tmp 7), none⟩]
def c49_3 : SC := .seq (.reg r49_2 [4]) .ret
def c49_4 : SC := .seq (.reg r49_1 [0, 1, 4]) c49_3
def c49 : SC := c49_4
noncomputable def X49 (M : Mem) : Fx := ⟨Try.prog, T, 8, 49, [(.tmp 4)], [], [], M, none⟩
section
variable (M : Mem)
@[go_sem] theorem X49.P : (X49 M).P = Try.prog := rfl
@[go_sem] theorem X49.T : (X49 M).T = T := rfl
@[go_sem] theorem X49.N : (X49 M).N = 8 := rfl
@[go_sem] theorem X49.rs : (X49 M).rs = [(.tmp 4)] := rfl
@[go_sem] theorem X49.own : (X49 M).own = [] := rfl
@[go_sem] theorem X49.M0 : (X49 M).M0 = M := rfl
@[go_sem] theorem X49.ro : (X49 M).ro = none := rfl
end
theorem k49 : (Try.f49.name == "runtime.NumGoroutine") = false ∧ Try.f49.ntmps = 8 ∧ Try.f49.results.toList = [(.tmp 4)] ∧ okC (X49 fun _ => none) ((Try.f49.body).getD .skip) = true ∧ c49.bare = slim (X49 fun _ => none) ((Try.f49.body).getD .skip) := ⟨by kernel_rfl, by kernel_rfl, by kernel_rfl, by kernel_rfl, by kernel_rfl⟩
theorem a49 {al : List AV} {M : Mem} {Q : AV → Mem → Prop} (hN : al.length ≤ 8) (h : SRuns (X49 M) [.code c49] (lk (num 0 al)) M [] Q) : ACalls Try.prog 49 al M Q := ACalls.of_slim c49 [] [] (tabOf_ok _) Try.func49 (by kernel_rfl : Try.f49.body = some ((Try.f49.body).getD .skip)) 8 [(.tmp 4)] k49 hN h

-- slices.Index[[]int,int]
@[go_sem] def r50_1 : List SOp := [
   ⟨some 4, .assign (.const (.int .i64 0)), none⟩]
@[go_sem] def r50_2 : List SOp := [
   ⟨some 6, .move (.tmp 0), none⟩,
   ⟨some 7, .call { callee := (.builtin .len), args := #[(.tmp 6)], argTypes := #[22] }, none⟩,
   ⟨some 8, .move (.const (.int .i64 0)), none⟩]
@[go_sem] def r50_3 : List SOp := [
   ⟨some 9, .binOp .lss 3 (.tmp 8) (.tmp 7) 3, none⟩]
def c50_4 : SC := .cond (.tmp 9) .skip (.exit 0)
@[go_sem] def r50_5 : List SOp := [
   ⟨some 10, .move (.tmp 8), none⟩,
   ⟨some 5, .assign (.tmp 10), none⟩]
@[go_sem] def r50_6 : List SOp := [
   ⟨some 11, .move (.tmp 1), none⟩,
   ⟨some 12, .move (.tmp 0), none⟩,
   ⟨some 13, .move (.tmp 5), none⟩,
   ⟨some 14, .indexAddr 22 (.tmp 12) (.tmp 13), none⟩,
   ⟨some 15, .load 3 (.tmp 14), none⟩,
   ⟨some 16, .binOp .eql 3 (.tmp 11) (.tmp 15) 3, none⟩]
@[go_sem] def r50_7 : List SOp := [
   ⟨some 17, .move (.tmp 5), none⟩,
   ⟨some 4, .assign (.tmp 17), none⟩]
def c50_8 : SC := .seq (.reg r50_7 [0, 1, 4, 7, 8]) .ret
def c50_9 : SC := .cond (.tmp 16) c50_8 .skip
def c50_10 : SC := .seq (.reg r50_6 [0, 1, 4, 5, 7, 8, 16]) c50_9
def c50_11 : SC := .seq (.reg r50_5 [0, 1, 4, 5, 7, 8]) c50_10
@[go_sem] def r50_12 : List SOp := [
   ⟨some 18, .binOp .add 3 (.tmp 8) (.const (.int .i64 1)) 3, none⟩,
   ⟨some 8, .move (.tmp 18), none⟩]
def c50_13 : SC := .seq (.block 1 c50_11) (.reg r50_12 [0, 1, 4, 7, 8])
def c50_14 : SC := .seq c50_4 c50_13
def c50_15 : SC := .seq (.reg r50_3 [0, 1, 4, 7, 8, 9]) c50_14
def c50_16 : SC := .seq (.reg r50_2 [0, 1, 4, 7, 8]) (.block 0 (.loop c50_15))
@[go_sem] def r50_17 : List SOp := [
   ⟨some 4, .assign (.const (.int .i64 (-1))), none⟩]
def c50_18 : SC := .seq (.reg r50_17 [4]) .ret
def c50_19 : SC := .seq c50_16 c50_18
def c50_20 : SC := .seq (.reg r50_1 [0, 1, 4]) c50_19
def c50 : SC := c50_20
noncomputable def X50 (M : Mem) : Fx := ⟨Try.prog, T, 19, 50, [(.tmp 4)], [], [], M, none⟩
section
variable (M : Mem)
@[go_sem] theorem X50.P : (X50 M).P = Try.prog := rfl
@[go_sem] theorem X50.T : (X50 M).T = T := rfl
@[go_sem] theorem X50.N : (X50 M).N = 19 := rfl
@[go_sem] theorem X50.rs : (X50 M).rs = [(.tmp 4)] := rfl
@[go_sem] theorem X50.own : (X50 M).own = [] := rfl
@[go_sem] theorem X50.M0 : (X50 M).M0 = M := rfl
@[go_sem] theorem X50.ro : (X50 M).ro = none := rfl
end
theorem k50 : (Try.f50.name == "runtime.NumGoroutine") = false ∧ Try.f50.ntmps = 19 ∧ Try.f50.results.toList = [(.tmp 4)] ∧ okC (X50 fun _ => none) ((Try.f50.body).getD .skip) = true ∧ c50.bare = slim (X50 fun _ => none) ((Try.f50.body).getD .skip) := ⟨by kernel_rfl, by kernel_rfl, by kernel_rfl, by kernel_rfl, by kernel_rfl⟩
theorem a50 {al : List AV} {M : Mem} {Q : AV → Mem → Prop} (hN : al.length ≤ 19) (h : SRuns (X50 M) [.code c50] (lk (num 0 al)) M [] Q) : ACalls Try.prog 50 al M Q := ACalls.of_slim c50 [] [] (tabOf_ok _) Try.func50 (by kernel_rfl : Try.f50.body = some ((Try.f50.body).getD .skip)) 19 [(.tmp 4)] k50 hN h

-- slices.Max[[]int,int]
@[go_sem] def r51_1 : List SOp := [
   ⟨some 2, .assign (.const (.int .i64 0)), none⟩]
@[go_sem] def r51_2 : List SOp := [
   ⟨some 5, .move (.tmp 0), none⟩,
   ⟨some 6, .call { callee := (.builtin .len), args := #[(.tmp 5)], argTypes := #[22] }, none⟩,
   ⟨some 7, .binOp .lss 3 (.tmp 6) (.const (.int .i64 1)) 3, none⟩]
@[go_sem] def r51_3 : List SOp := [
   ⟨some 8, .makeInterface 9 (.const (.string { data := #[115, 108, 105, 99, 101, 115, 46, 77, 97, 120, 58, 32, 101, 109, 112, 116, 121, 32, 108, 105, 115, 116] })), none⟩,
   ⟨none, .panic (.tmp 8), none⟩]
def c51_4 : SC := .cond (.tmp 7) (.reg r51_3 [0, 2]) .skip
def c51_5 : SC := .seq (.reg r51_2 [0, 2, 7]) c51_4
@[go_sem] def r51_6 : List SOp := [
   ⟨some 9, .move (.tmp 0), none⟩,
   ⟨some 10, .indexAddr 22 (.tmp 9) (.const (.int .i64 0)), none⟩,
   ⟨some 11, .load 3 (.tmp 10), none⟩,
   ⟨some 3, .assign (.tmp 11), none⟩]
@[go_sem] def r51_7 : List SOp := [
   ⟨some 4, .assign (.const (.int .i64 1)), none⟩]
@[go_sem] def r51_8 : List SOp := [
   ⟨some 12, .move (.tmp 4), none⟩,
   ⟨some 13, .move (.tmp 0), none⟩,
   ⟨some 14, .call { callee := (.builtin .len), args := #[(.tmp 13)], argTypes := #[22] }, none⟩,
   ⟨some 15, .binOp .lss 3 (.tmp 12) (.tmp 14) 3, none⟩]
def c51_9 : SC := .cond (.tmp 15) .skip (.exit 0)
def c51_10 : SC := .seq (.reg r51_8 [0, 2, 3, 4, 15]) c51_9
@[go_sem] def r51_11 : List SOp := [
   ⟨some 18, .move (.tmp 3), none⟩,
   ⟨some 19, .move (.tmp 0), none⟩,
   ⟨some 20, .move (.tmp 4), none⟩,
   ⟨some 21, .indexAddr 22 (.tmp 19) (.tmp 20), none⟩,
   ⟨some 22, .load 3 (.tmp 21), none⟩,
   ⟨some 23, .call { callee := (.builtin .max), args := #[(.tmp 18), (.tmp 22)], argTypes := #[3, 3] }, none⟩,
   ⟨some 3, .assign (.tmp 23), none⟩]
@[go_sem] def r51_12 : List SOp := [
   ⟨some 16, .move (.tmp 4), none⟩,
   ⟨some 17, .binOp .add 3 (.tmp 16) (.const (.int .i64 1)) 3, none⟩,
   ⟨some 4, .assign (.tmp 17), none⟩]
def c51_13 : SC := .seq (.block 1 (.reg r51_11 [0, 2, 3, 4])) (.reg r51_12 [0, 2, 3, 4])
def c51_14 : SC := .seq c51_10 c51_13
def c51_15 : SC := .seq (.reg r51_7 [0, 2, 3, 4]) (.block 0 (.loop c51_14))
@[go_sem] def r51_16 : List SOp := [
   ⟨some 24, .move (.tmp 3), none⟩,
   ⟨some 2, .assign (.tmp 24), none⟩]
def c51_17 : SC := .seq (.reg r51_16 [2]) .ret
def c51_18 : SC := .seq c51_15 c51_17
def c51_19 : SC := .seq (.reg r51_6 [0, 2, 3]) c51_18
def c51_20 : SC := .seq c51_5 c51_19
def c51_21 : SC := .seq (.reg r51_1 [0, 2]) c51_20
def c51 : SC := c51_21
noncomputable def X51 (M : Mem) : Fx := ⟨Try.prog, T, 25, 51, [(.tmp 2)], [], [], M, none⟩
section
variable (M : Mem)
@[go_sem] theorem X51.P : (X51 M).P = Try.prog := rfl
@[go_sem] theorem X51.T : (X51 M).T = T := rfl
@[go_sem] theorem X51.N : (X51 M).N = 25 := rfl
@[go_sem] theorem X51.rs : (X51 M).rs = [(.tmp 2)] := rfl
@[go_sem] theorem X51.own : (X51 M).own = [] := rfl
@[go_sem] theorem X51.M0 : (X51 M).M0 = M := rfl
@[go_sem] theorem X51.ro : (X51 M).ro = none := rfl
end
theorem k51 : (Try.f51.name == "runtime.NumGoroutine") = false ∧ Try.f51.ntmps = 25 ∧ Try.f51.results.toList = [(.tmp 2)] ∧ okC (X51 fun _ => none) ((Try.f51.body).getD .skip) = true ∧ c51.bare = slim (X51 fun _ => none) ((Try.f51.body).getD .skip) := ⟨by kernel_rfl, by kernel_rfl, by kernel_rfl, by kernel_rfl, by kernel_rfl⟩
theorem a51 {al : List AV} {M : Mem} {Q : AV → Mem → Prop} (hN : al.length ≤ 25) (h : SRuns (X51 M) [.code c51] (lk (num 0 al)) M [] Q) : ACalls Try.prog 51 al M Q := ACalls.of_slim c51 [] [] (tabOf_ok _) Try.func51 (by kernel_rfl : Try.f51.body = some ((Try.f51.body).getD .skip)) 25 [(.tmp 2)] k51 hN h

-- antiquary/antiquaryref06.asked
noncomputable def X52 (M : Mem) : Fx := ⟨Try.prog, T, 25, 52, [(.tmp 6)], [], [], M, none⟩
section
variable (M : Mem)
@[go_sem] theorem X52.P : (X52 M).P = Try.prog := rfl
@[go_sem] theorem X52.T : (X52 M).T = T := rfl
@[go_sem] theorem X52.N : (X52 M).N = 25 := rfl
@[go_sem] theorem X52.rs : (X52 M).rs = [(.tmp 6)] := rfl
@[go_sem] theorem X52.own : (X52 M).own = [] := rfl
@[go_sem] theorem X52.M0 : (X52 M).M0 = M := rfl
@[go_sem] theorem X52.ro : (X52 M).ro = none := rfl
end
-- antiquary/antiquaryref06.alike
noncomputable def X53 (M : Mem) : Fx := ⟨Try.prog, T, 20, 53, [(.tmp 4)], [], [], M, none⟩
section
variable (M : Mem)
@[go_sem] theorem X53.P : (X53 M).P = Try.prog := rfl
@[go_sem] theorem X53.T : (X53 M).T = T := rfl
@[go_sem] theorem X53.N : (X53 M).N = 20 := rfl
@[go_sem] theorem X53.rs : (X53 M).rs = [(.tmp 4)] := rfl
@[go_sem] theorem X53.own : (X53 M).own = [] := rfl
@[go_sem] theorem X53.M0 : (X53 M).M0 = M := rfl
@[go_sem] theorem X53.ro : (X53 M).ro = none := rfl
end
-- antiquary/antiquaryref06.Same
@[go_sem] def r54_1 : List SOp := [
   ⟨some 4, .assign (.const (.bool false)), none⟩]
@[go_sem] def r54_2 : List SOp := [
   ⟨some 6, .move (.tmp 0), none⟩,
   ⟨some 7, .call { callee := (.builtin .len), args := #[(.tmp 6)], argTypes := #[22] }, none⟩,
   ⟨some 8, .move (.tmp 1), none⟩,
   ⟨some 9, .call { callee := (.builtin .len), args := #[(.tmp 8)], argTypes := #[22] }, none⟩,
   ⟨some 10, .binOp .neq 3 (.tmp 7) (.tmp 9) 3, none⟩]
@[go_sem] def r54_3 : List SOp := [
   ⟨some 4, .assign (.const (.bool false)), none⟩]
def c54_4 : SC := .seq (.reg r54_3 [0, 1, 4]) .ret
def c54_5 : SC := .cond (.tmp 10) c54_4 .skip
def c54_6 : SC := .seq (.reg r54_2 [0, 1, 4, 10]) c54_5
@[go_sem] def r54_7 : List SOp := [
   ⟨some 5, .assign (.const (.int .i64 0)), none⟩]
@[go_sem] def r54_8 : List SOp := [
   ⟨some 11, .move (.tmp 5), none⟩,
   ⟨some 12, .move (.tmp 0), none⟩,
   ⟨some 13, .call { callee := (.builtin .len), args := #[(.tmp 12)], argTypes := #[22] }, none⟩,
   ⟨some 14, .binOp .lss 3 (.tmp 11) (.tmp 13) 3, none⟩]
def c54_9 : SC := .cond (.tmp 14) .skip (.exit 0)
def c54_10 : SC := .seq (.reg r54_8 [0, 1, 4, 5, 14]) c54_9
@[go_sem] def r54_11 : List (SOp × List Nat) := [
   (⟨some 17, .move (.tmp 0), none⟩, [1, 4, 5, 6, 7]),
   (⟨some 18, .move (.tmp 5), none⟩, [0, 4, 5, 6, 7]),
   (⟨some 19, .indexAddr 22 (.tmp 17) (.tmp 18), none⟩, [4, 5, 6, 7]),
   (⟨some 20, .load 3 (.tmp 19), none⟩, [4, 5, 6, 7]),
   (⟨some 21, .move (.tmp 1), none⟩, [0, 1, 2, 3, 5]),
   (⟨some 22, .move (.tmp 5), none⟩, [0, 1, 2, 3, 4]),
   (⟨some 23, .indexAddr 22 (.tmp 21) (.tmp 22), none⟩, [0, 1, 2, 3]),
   (⟨some 24, .load 3 (.tmp 23), none⟩, [0, 1, 2, 3]),
   (⟨some 25, .binOp .neq 3 (.tmp 20) (.tmp 24) 3, none⟩, [])]
@[go_sem] def r54_12 : List SOp := [
   ⟨some 4, .assign (.const (.bool false)), none⟩]
def c54_13 : SC := .seq (.reg r54_12 [0, 1, 4, 5]) .ret
def c54_14 : SC := .cond (.tmp 25) c54_13 .skip
def c54_15 : SC := .seq (.draw r54_11 [0, 1, 4, 5, 25]) c54_14
@[go_sem] def r54_16 : List SOp := [
   ⟨some 15, .move (.tmp 5), none⟩,
   ⟨some 16, .binOp .add 3 (.tmp 15) (.const (.int .i64 1)) 3, none⟩,
   ⟨some 5, .assign (.tmp 16), none⟩]
def c54_17 : SC := .seq (.block 1 c54_15) (.reg r54_16 [0, 1, 4, 5])
def c54_18 : SC := .seq c54_10 c54_17
def c54_19 : SC := .seq (.reg r54_7 [0, 1, 4, 5]) (.block 0 (.loop c54_18))
@[go_sem] def r54_20 : List SOp := [
   ⟨some 4, .assign (.const (.bool true)), none⟩]
def c54_21 : SC := .seq (.reg r54_20 [4]) .ret
def c54_22 : SC := .seq c54_19 c54_21
def c54_23 : SC := .seq c54_6 c54_22
def c54_24 : SC := .seq (.reg r54_1 [0, 1, 4]) c54_23
def c54 : SC := c54_24
noncomputable def X54 (M : Mem) : Fx := ⟨Try.prog, T, 26, 54, [(.tmp 4)], [], [], M, none⟩
section
variable (M : Mem)
@[go_sem] theorem X54.P : (X54 M).P = Try.prog := rfl
@[go_sem] theorem X54.T : (X54 M).T = T := rfl
@[go_sem] theorem X54.N : (X54 M).N = 26 := rfl
@[go_sem] theorem X54.rs : (X54 M).rs = [(.tmp 4)] := rfl
@[go_sem] theorem X54.own : (X54 M).own = [] := rfl
@[go_sem] theorem X54.M0 : (X54 M).M0 = M := rfl
@[go_sem] theorem X54.ro : (X54 M).ro = none := rfl
end
theorem k54 : (Try.f54.name == "runtime.NumGoroutine") = false ∧ Try.f54.ntmps = 26 ∧ Try.f54.results.toList = [(.tmp 4)] ∧ okC (X54 fun _ => none) ((Try.f54.body).getD .skip) = true ∧ c54.bare = slim (X54 fun _ => none) ((Try.f54.body).getD .skip) := ⟨by kernel_rfl, by kernel_rfl, by kernel_rfl, by kernel_rfl, by kernel_rfl⟩
theorem a54 {al : List AV} {M : Mem} {Q : AV → Mem → Prop} (hN : al.length ≤ 26) (h : SRuns (X54 M) [.code c54] (lk (num 0 al)) M [] Q) : ACalls Try.prog 54 al M Q := ACalls.of_slim c54 [] [] (tabOf_ok _) Try.func54 (by kernel_rfl : Try.f54.body = some ((Try.f54.body).getD .skip)) 26 [(.tmp 4)] k54 hN h

-- antiquary/box.isVector
@[go_sem] def r55_1 : List SOp := [
   ⟨some 2, .assign (.const (.bool false)), none⟩]
@[go_sem] def r55_2 : List SOp := [
   ⟨some 3, .assign (.func 65), none⟩]
@[go_sem] def r55_3 : List SOp := [
   ⟨some 4, .move (.tmp 0), none⟩,
   ⟨some 5, .call { callee := (.builtin .len), args := #[(.tmp 4)], argTypes := #[22] }, none⟩,
   ⟨some 6, .binOp .geq 3 (.tmp 5) (.const (.int .i64 1)) 3, none⟩,
   ⟨some 7, .move (.tmp 6), none⟩,
   ⟨some 8, .move (.tmp 0), (some (some 7, true))⟩,
   ⟨some 9, .call { callee := (.builtin .len), args := #[(.tmp 8)], argTypes := #[22] }, (some (some 7, true))⟩,
   ⟨some 10, .binOp .leq 3 (.tmp 9) (.const (.int .i64 32)) 3, (some (some 7, true))⟩,
   ⟨some 11, .pick (.tmp 7) (.tmp 10) (.const (.bool false)), none⟩,
   ⟨some 12, .move (.tmp 11), none⟩,
   ⟨some 13, .move (.tmp 0), (some (some 12, true))⟩,
   ⟨some 14, .move (.tmp 3), (some (some 12, true))⟩,
   ⟨some 15, .call { callee := (.value (.func 66)), args := #[(.tmp 13), (.tmp 14)], argTypes := #[22, 50] }, (some (some 12, true))⟩,
   ⟨some 16, .unOp .not 4 (.tmp 15), (some (some 12, true))⟩,
   ⟨some 17, .pick (.tmp 12) (.tmp 16) (.const (.bool false)), none⟩,
   ⟨some 2, .assign (.tmp 17), none⟩]
def c55_4 : SC := .seq (.reg r55_3 [2]) .ret
def c55_5 : SC := .seq (.reg r55_2 [0, 2, 3]) c55_4
def c55_6 : SC := .seq (.reg r55_1 [0, 2]) c55_5
def c55 : SC := c55_6
noncomputable def X55 (M : Mem) : Fx := ⟨Try.prog, T, 18, 55, [(.tmp 2)], [], [], M, none⟩
section
variable (M : Mem)
@[go_sem] theorem X55.P : (X55 M).P = Try.prog := rfl
@[go_sem] theorem X55.T : (X55 M).T = T := rfl
@[go_sem] theorem X55.N : (X55 M).N = 18 := rfl
@[go_sem] theorem X55.rs : (X55 M).rs = [(.tmp 2)] := rfl
@[go_sem] theorem X55.own : (X55 M).own = [] := rfl
@[go_sem] theorem X55.M0 : (X55 M).M0 = M := rfl
@[go_sem] theorem X55.ro : (X55 M).ro = none := rfl
end
theorem k55 : (Try.f55.name == "runtime.NumGoroutine") = false ∧ Try.f55.ntmps = 18 ∧ Try.f55.results.toList = [(.tmp 2)] ∧ okC (X55 fun _ => none) ((Try.f55.body).getD .skip) = true ∧ c55.bare = slim (X55 fun _ => none) ((Try.f55.body).getD .skip) := ⟨by kernel_rfl, by kernel_rfl, by kernel_rfl, by kernel_rfl, by kernel_rfl⟩
theorem a55 {al : List AV} {M : Mem} {Q : AV → Mem → Prop} (hN : al.length ≤ 18) (h : SRuns (X55 M) [.code c55] (lk (num 0 al)) M [] Q) : ACalls Try.prog 55 al M Q := ACalls.of_slim c55 [] [] (tabOf_ok _) Try.func55 (by kernel_rfl : Try.f55.body = some ((Try.f55.body).getD .skip)) 18 [(.tmp 2)] k55 hN h

-- antiquary/box.pairs
@[go_sem] def r56_1 : List SOp := [
   ⟨some 2, .box 22 (.tmp 0), none⟩,
   ⟨some 3, .box 22 (.tmp 1), none⟩,
   ⟨some 4, .assign (.const .nilFunc), none⟩]
@[go_sem] def r56_2 : List SOp := [
   ⟨some 5, .makeFunc (.func 67) #[] #[(.tmp 2), (.tmp 3)], none⟩,
   ⟨some 4, .assign (.tmp 5), none⟩]
def c56_3 : SC := .seq (.reg r56_2 [4]) .ret
def c56_4 : SC := .seq (.reg r56_1 [2, 3, 4]) c56_3
def c56 : SC := c56_4
noncomputable def X56 (M : Mem) : Fx := ⟨Try.prog, T, 6, 56, [(.tmp 4)], [], [], M, none⟩
section
variable (M : Mem)
@[go_sem] theorem X56.P : (X56 M).P = Try.prog := rfl
@[go_sem] theorem X56.T : (X56 M).T = T := rfl
@[go_sem] theorem X56.N : (X56 M).N = 6 := rfl
@[go_sem] theorem X56.rs : (X56 M).rs = [(.tmp 4)] := rfl
@[go_sem] theorem X56.own : (X56 M).own = [] := rfl
@[go_sem] theorem X56.M0 : (X56 M).M0 = M := rfl
@[go_sem] theorem X56.ro : (X56 M).ro = none := rfl
end
theorem k56 : (Try.f56.name == "runtime.NumGoroutine") = false ∧ Try.f56.ntmps = 6 ∧ Try.f56.results.toList = [(.tmp 4)] ∧ okC (X56 fun _ => none) ((Try.f56.body).getD .skip) = true ∧ c56.bare = slim (X56 fun _ => none) ((Try.f56.body).getD .skip) := ⟨by kernel_rfl, by kernel_rfl, by kernel_rfl, by kernel_rfl, by kernel_rfl⟩
theorem a56 {al : List AV} {M : Mem} {Q : AV → Mem → Prop} (hN : al.length ≤ 6) (h : SRuns (X56 M) [.code c56] (lk (num 0 al)) M [] Q) : ACalls Try.prog 56 al M Q := ACalls.of_slim c56 [] [] (tabOf_ok _) Try.func56 (by kernel_rfl : Try.f56.body = some ((Try.f56.body).getD .skip)) 6 [(.tmp 4)] k56 hN h

-- antiquary/box.greatest
@[go_sem] def r57_1 : List SOp := [
   ⟨some 4, .assign (.const (.int .i64 0)), none⟩]
@[go_sem] def r57_2 : List SOp := [
   ⟨some 5, .move (.tmp 0), none⟩,
   ⟨some 6, .move (.tmp 1), none⟩,
   ⟨some 7, .call { callee := (.builtin .max), args := #[(.tmp 5), (.tmp 6)], argTypes := #[3, 3] }, none⟩,
   ⟨some 4, .assign (.tmp 7), none⟩]
def c57_3 : SC := .seq (.reg r57_2 [4]) .ret
def c57_4 : SC := .seq (.reg r57_1 [0, 1, 4]) c57_3
def c57 : SC := c57_4
noncomputable def X57 (M : Mem) : Fx := ⟨Try.prog, T, 8, 57, [(.tmp 4)], [], [], M, none⟩
section
variable (M : Mem)
@[go_sem] theorem X57.P : (X57 M).P = Try.prog := rfl
@[go_sem] theorem X57.T : (X57 M).T = T := rfl
@[go_sem] theorem X57.N : (X57 M).N = 8 := rfl
@[go_sem] theorem X57.rs : (X57 M).rs = [(.tmp 4)] := rfl
@[go_sem] theorem X57.own : (X57 M).own = [] := rfl
@[go_sem] theorem X57.M0 : (X57 M).M0 = M := rfl
@[go_sem] theorem X57.ro : (X57 M).ro = none := rfl
end
theorem k57 : (Try.f57.name == "runtime.NumGoroutine") = false ∧ Try.f57.ntmps = 8 ∧ Try.f57.results.toList = [(.tmp 4)] ∧ okC (X57 fun _ => none) ((Try.f57.body).getD .skip) = true ∧ c57.bare = slim (X57 fun _ => none) ((Try.f57.body).getD .skip) := ⟨by kernel_rfl, by kernel_rfl, by kernel_rfl, by kernel_rfl, by kernel_rfl⟩
theorem a57 {al : List AV} {M : Mem} {Q : AV → Mem → Prop} (hN : al.length ≤ 8) (h : SRuns (X57 M) [.code c57] (lk (num 0 al)) M [] Q) : ACalls Try.prog 57 al M Q := ACalls.of_slim c57 [] [] (tabOf_ok _) Try.func57 (by kernel_rfl : Try.f57.body = some ((Try.f57.body).getD .skip)) 8 [(.tmp 4)] k57 hN h

-- antiquary/box.least
@[go_sem] def r58_1 : List SOp := [
   ⟨some 4, .assign (.const (.int .i64 0)), none⟩]
@[go_sem] def r58_2 : List SOp := [
   ⟨some 5, .move (.tmp 0), none⟩,
   ⟨some 6, .move (.tmp 1), none⟩,
   ⟨some 7, .call { callee := (.builtin .min), args := #[(.tmp 5), (.tmp 6)], argTypes := #[3, 3] }, none⟩,
   ⟨some 4, .assign (.tmp 7), none⟩]
def c58_3 : SC := .seq (.reg r58_2 [4]) .ret
def c58_4 : SC := .seq (.reg r58_1 [0, 1, 4]) c58_3
def c58 : SC := c58_4
noncomputable def X58 (M : Mem) : Fx := ⟨Try.prog, T, 8, 58, [(.tmp 4)], [], [], M, none⟩
section
variable (M : Mem)
@[go_sem] theorem X58.P : (X58 M).P = Try.prog := rfl
@[go_sem] theorem X58.T : (X58 M).T = T := rfl
@[go_sem] theorem X58.N : (X58 M).N = 8 := rfl
@[go_sem] theorem X58.rs : (X58 M).rs = [(.tmp 4)] := rfl
@[go_sem] theorem X58.own : (X58 M).own = [] := rfl
@[go_sem] theorem X58.M0 : (X58 M).M0 = M := rfl
@[go_sem] theorem X58.ro : (X58 M).ro = none := rfl
end
theorem k58 : (Try.f58.name == "runtime.NumGoroutine") = false ∧ Try.f58.ntmps = 8 ∧ Try.f58.results.toList = [(.tmp 4)] ∧ okC (X58 fun _ => none) ((Try.f58.body).getD .skip) = true ∧ c58.bare = slim (X58 fun _ => none) ((Try.f58.body).getD .skip) := ⟨by kernel_rfl, by kernel_rfl, by kernel_rfl, by kernel_rfl, by kernel_rfl⟩
theorem a58 {al : List AV} {M : Mem} {Q : AV → Mem → Prop} (hN : al.length ≤ 8) (h : SRuns (X58 M) [.code c58] (lk (num 0 al)) M [] Q) : ACalls Try.prog 58 al M Q := ACalls.of_slim c58 [] [] (tabOf_ok _) Try.func58 (by kernel_rfl : Try.f58.body = some ((Try.f58.body).getD .skip)) 8 [(.tmp 4)] k58 hN h

-- antiquary/box.Of$1
@[go_sem] def r59_1 : List SOp := [
   ⟨some 3, .assign (.const (.bool false)), none⟩]
@[go_sem] def r59_2 : List SOp := [
   ⟨some 4, .move (.tmp 0), none⟩,
   ⟨some 5, .call { callee := (.value (.func 55)), args := #[(.tmp 4)], argTypes := #[22] }, none⟩,
   ⟨some 6, .unOp .not 4 (.tmp 5), none⟩,
   ⟨some 7, .move (.tmp 6), none⟩,
   ⟨some 8, .move (.tmp 0), (some (some 7, false))⟩,
   ⟨some 9, .call { callee := (.builtin .len), args := #[(.tmp 8)], argTypes := #[22] }, (some (some 7, false))⟩,
   ⟨some 10, .load 59 (.tmp 1), (some (some 7, false))⟩,
   ⟨some 11, .indexAddr 59 (.tmp 10) (.const (.int .i64 0)), (some (some 7, false))⟩,
   ⟨some 12, .load 22 (.tmp 11), (some (some 7, false))⟩,
   ⟨some 13, .call { callee := (.builtin .len), args := #[(.tmp 12)], argTypes := #[22] }, (some (some 7, false))⟩,
   ⟨some 14, .binOp .neq 3 (.tmp 9) (.tmp 13) 3, (some (some 7, false))⟩,
   ⟨some 15, .pick (.tmp 7) (.const (.bool true)) (.tmp 14), none⟩,
   ⟨some 3, .assign (.tmp 15), none⟩]
def c59_3 : SC := .seq (.reg r59_2 [3]) .ret
def c59_4 : SC := .seq (.reg r59_1 [0, 1, 3]) c59_3
def c59 : SC := c59_4
noncomputable def X59 (M : Mem) : Fx := ⟨Try.prog, T, 16, 59, [(.tmp 3)], [], [], M, none⟩
section
variable (M : Mem)
@[go_sem] theorem X59.P : (X59 M).P = Try.prog := rfl
@[go_sem] theorem X59.T : (X59 M).T = T := rfl
@[go_sem] theorem X59.N : (X59 M).N = 16 := rfl
@[go_sem] theorem X59.rs : (X59 M).rs = [(.tmp 3)] := rfl
@[go_sem] theorem X59.own : (X59 M).own = [] := rfl
@[go_sem] theorem X59.M0 : (X59 M).M0 = M := rfl
@[go_sem] theorem X59.ro : (X59 M).ro = none := rfl
end
theorem k59 : (Try.f59.name == "runtime.NumGoroutine") = false ∧ Try.f59.ntmps = 16 ∧ Try.f59.results.toList = [(.tmp 3)] ∧ okC (X59 fun _ => none) ((Try.f59.body).getD .skip) = true ∧ c59.bare = slim (X59 fun _ => none) ((Try.f59.body).getD .skip) := ⟨by kernel_rfl, by kernel_rfl, by kernel_rfl, by kernel_rfl, by kernel_rfl⟩
theorem a59 {al : List AV} {M : Mem} {Q : AV → Mem → Prop} (hN : al.length ≤ 16) (h : SRuns (X59 M) [.code c59] (lk (num 0 al)) M [] Q) : ACalls Try.prog 59 al M Q := ACalls.of_slim c59 [] [] (tabOf_ok _) Try.func59 (by kernel_rfl : Try.f59.body = some ((Try.f59.body).getD .skip)) 16 [(.tmp 3)] k59 hN h

-- slices.ContainsFunc[[][]int,[]int]
@[go_sem] def r60_1 : List SOp := [
   ⟨some 4, .assign (.const (.bool false)), none⟩]
@[go_sem] def r60_2 : List SOp := [
   ⟨some 5, .move (.tmp 0), none⟩,
   ⟨some 6, .move (.tmp 1), none⟩,
   ⟨some 7, .call { callee := (.value (.func 68)), args := #[(.tmp 5), (.tmp 6)], argTypes := #[59, 49] }, none⟩,
   ⟨some 8, .binOp .geq 3 (.tmp 7) (.const (.int .i64 0)) 3, none⟩,
   ⟨some 4, .assign (.tmp 8), none⟩]
def c60_3 : SC := .seq (.reg r60_2 [4]) .ret
def c60_4 : SC := .seq (.reg r60_1 [0, 1, 4]) c60_3
def c60 : SC := c60_4
noncomputable def X60 (M : Mem) : Fx := ⟨Try.prog, T, 9, 60, [(.tmp 4)], [], [], M, none⟩
section
variable (M : Mem)
@[go_sem] theorem X60.P : (X60 M).P = Try.prog := rfl
@[go_sem] theorem X60.T : (X60 M).T = T := rfl
@[go_sem] theorem X60.N : (X60 M).N = 9 := rfl
@[go_sem] theorem X60.rs : (X60 M).rs = [(.tmp 4)] := rfl
@[go_sem] theorem X60.own : (X60 M).own = [] := rfl
@[go_sem] theorem X60.M0 : (X60 M).M0 = M := rfl
@[go_sem] theorem X60.ro : (X60 M).ro = none := rfl
end
theorem k60 : (Try.f60.name == "runtime.NumGoroutine") = false ∧ Try.f60.ntmps = 9 ∧ Try.f60.results.toList = [(.tmp 4)] ∧ okC (X60 fun _ => none) ((Try.f60.body).getD .skip) = true ∧ c60.bare = slim (X60 fun _ => none) ((Try.f60.body).getD .skip) := ⟨by kernel_rfl, by kernel_rfl, by kernel_rfl, by kernel_rfl, by kernel_rfl⟩
theorem a60 {al : List AV} {M : Mem} {Q : AV → Mem → Prop} (hN : al.length ≤ 9) (h : SRuns (X60 M) [.code c60] (lk (num 0 al)) M [] Q) : ACalls Try.prog 60 al M Q := ACalls.of_slim c60 [] [] (tabOf_ok _) Try.func60 (by kernel_rfl : Try.f60.body = some ((Try.f60.body).getD .skip)) 9 [(.tmp 4)] k60 hN h

-- antiquary/box.measure$1
@[go_sem] def r61_1 : List SOp := [
   ⟨some 7, .load 22 (.tmp 1), none⟩,
   ⟨some 8, .call { callee := (.builtin .len), args := #[(.tmp 7)], argTypes := #[22] }, none⟩,
   ⟨some 9, .move (.const (.int .i64 0)), none⟩]
@[go_sem] def r61_2 : List SOp := [
   ⟨some 10, .binOp .lss 3 (.tmp 9) (.tmp 8) 3, none⟩]
def c61_3 : SC := .cond (.tmp 10) .skip (.exit 0)
@[go_sem] def r61_4 : List SOp := [
   ⟨some 11, .move (.tmp 9), none⟩,
   ⟨some 12, .indexAddr 22 (.tmp 7) (.tmp 9), none⟩,
   ⟨some 13, .load 3 (.tmp 12), none⟩,
   ⟨some 5, .assign (.tmp 11), none⟩,
   ⟨some 6, .assign (.tmp 13), none⟩]
@[go_sem] def r61_5 : List (SOp × List Nat) := [
   (⟨some 14, .move (.tmp 0), none⟩, [1, 2, 3, 4, 5, 6, 7, 8, 9, 10, 11, 12, 13]),
   (⟨some 15, .load 71 (.tmp 2), none⟩, [0, 2, 3, 4, 5, 6, 7, 8, 9, 10, 11, 12]),
   (⟨some 16, .fieldAddr 24 (.tmp 3) 0, none⟩, [0, 1, 4, 7, 8, 9, 10, 11, 12]),
   (⟨some 17, .load 22 (.tmp 16), none⟩, [0, 1, 4, 7, 8, 9, 10, 11, 12]),
   (⟨some 18, .move (.tmp 5), none⟩, [0, 1, 2, 3, 7, 8, 9, 10, 11, 12]),
   (⟨some 19, .indexAddr 22 (.tmp 17) (.tmp 18), none⟩, [0, 1, 7, 8, 9, 10, 11, 12]),
   (⟨some 20, .load 3 (.tmp 19), none⟩, [0, 1, 7, 8, 9, 10, 11, 12]),
   (⟨some 21, .fieldAddr 24 (.tmp 3) 1, none⟩, [0, 1, 2, 3, 4, 5, 6, 9, 12]),
   (⟨some 22, .load 22 (.tmp 21), none⟩, [0, 1, 2, 3, 4, 5, 6, 9, 12]),
   (⟨some 23, .move (.tmp 5), none⟩, [0, 1, 2, 3, 4, 5, 6, 7, 8, 12]),
   (⟨some 24, .indexAddr 22 (.tmp 22) (.tmp 23), none⟩, [0, 1, 2, 3, 4, 5, 6, 12]),
   (⟨some 25, .load 3 (.tmp 24), none⟩, [0, 1, 2, 3, 4, 5, 6, 12]),
   (⟨some 26, .move (.tmp 6), none⟩, [0, 1, 2, 3, 4, 5, 6, 7, 8, 9, 10, 11]),
   (⟨some 27, .call { callee := (.value (.tmp 15)), args := #[(.tmp 20), (.tmp 25), (.tmp 26)], argTypes := #[3, 3, 3] }, none⟩, [0]),
   (⟨some 28, .call { callee := (.value (.tmp 14)), args := #[(.tmp 27)], argTypes := #[3] }, none⟩, []),
   (⟨some 29, .unOp .not 4 (.tmp 28), none⟩, [])]
def c61_6 : SC := .cond (.tmp 29) .ret .skip
def c61_7 : SC := .seq (.draw r61_5 [0, 2, 3, 7, 8, 9, 29]) c61_6
def c61_8 : SC := .seq (.reg r61_4 [0, 2, 3, 5, 6, 7, 8, 9]) c61_7
@[go_sem] def r61_9 : List SOp := [
   ⟨some 30, .binOp .add 3 (.tmp 9) (.const (.int .i64 1)) 3, none⟩,
   ⟨some 9, .move (.tmp 30), none⟩]
def c61_10 : SC := .seq (.block 1 c61_8) (.reg r61_9 [0, 2, 3, 7, 8, 9])
def c61_11 : SC := .seq c61_3 c61_10
def c61_12 : SC := .seq (.reg r61_2 [0, 2, 3, 7, 8, 9, 10]) c61_11
def c61_13 : SC := .seq (.reg r61_1 [0, 2, 3, 7, 8, 9]) (.block 0 (.loop c61_12))
def c61 : SC := c61_13
noncomputable def X61 (M : Mem) : Fx := ⟨Try.prog, T, 31, 61, [], [], [], M, none⟩
section
variable (M : Mem)
@[go_sem] theorem X61.P : (X61 M).P = Try.prog := rfl
@[go_sem] theorem X61.T : (X61 M).T = T := rfl
@[go_sem] theorem X61.N : (X61 M).N = 31 := rfl
@[go_sem] theorem X61.rs : (X61 M).rs = [] := rfl
@[go_sem] theorem X61.own : (X61 M).own = [] := rfl
@[go_sem] theorem X61.M0 : (X61 M).M0 = M := rfl
@[go_sem] theorem X61.ro : (X61 M).ro = none := rfl
end
theorem k61 : (Try.f61.name == "runtime.NumGoroutine") = false ∧ Try.f61.ntmps = 31 ∧ Try.f61.results.toList = [] ∧ okC (X61 fun _ => none) ((Try.f61.body).getD .skip) = true ∧ c61.bare = slim (X61 fun _ => none) ((Try.f61.body).getD .skip) := ⟨by kernel_rfl, by kernel_rfl, by kernel_rfl, by kernel_rfl, by kernel_rfl⟩
theorem a61 {al : List AV} {M : Mem} {Q : AV → Mem → Prop} (hN : al.length ≤ 31) (h : SRuns (X61 M) [.code c61] (lk (num 0 al)) M [] Q) : ACalls Try.prog 61 al M Q := ACalls.of_slim c61 [] [] (tabOf_ok _) Try.func61 (by kernel_rfl : Try.f61.body = some ((Try.f61.body).getD .skip)) 31 [] k61 hN h

-- antiquary/box.key$1
@[go_sem] def r62_1 : List SOp := [
   ⟨some 3, .load 3 (.tmp 1), none⟩,
   ⟨some 4, .move (.tmp 0), none⟩,
   ⟨some 5, .binOp .add 3 (.tmp 3) (.tmp 4) 3, none⟩,
   ⟨none, .store 3 (.tmp 1) (.tmp 5), none⟩]
def c62 : SC := (.reg r62_1 [])
noncomputable def X62 (M : Mem) : Fx := ⟨Try.prog, T, 6, 62, [], [], [], M, none⟩
section
variable (M : Mem)
@[go_sem] theorem X62.P : (X62 M).P = Try.prog := rfl
@[go_sem] theorem X62.T : (X62 M).T = T := rfl
@[go_sem] theorem X62.N : (X62 M).N = 6 := rfl
@[go_sem] theorem X62.rs : (X62 M).rs = [] := rfl
@[go_sem] theorem X62.own : (X62 M).own = [] := rfl
@[go_sem] theorem X62.M0 : (X62 M).M0 = M := rfl
@[go_sem] theorem X62.ro : (X62 M).ro = none := rfl
end
theorem k62 : (Try.f62.name == "runtime.NumGoroutine") = false ∧ Try.f62.ntmps = 6 ∧ Try.f62.results.toList = [] ∧ okC (X62 fun _ => none) ((Try.f62.body).getD .skip) = true ∧ c62.bare = slim (X62 fun _ => none) ((Try.f62.body).getD .skip) := ⟨by kernel_rfl, by kernel_rfl, by kernel_rfl, by kernel_rfl, by kernel_rfl⟩
theorem a62 {al : List AV} {M : Mem} {Q : AV → Mem → Prop} (hN : al.length ≤ 6) (h : SRuns (X62 M) [.code c62] (lk (num 0 al)) M [] Q) : ACalls Try.prog 62 al M Q := ACalls.of_slim c62 [] [] (tabOf_ok _) Try.func62 (by kernel_rfl : Try.f62.body = some ((Try.f62.body).getD .skip)) 6 [] k62 hN h

-- antiquary/box.key$2
@[go_sem] def r63_1 : List SOp := [
   ⟨some 3, .load 3 (.tmp 1), none⟩,
   ⟨some 4, .move (.tmp 0), none⟩,
   ⟨some 5, .move (.tmp 0), none⟩,
   ⟨some 6, .binOp .mul 3 (.tmp 4) (.tmp 5) 3, none⟩,
   ⟨some 7, .binOp .add 3 (.tmp 3) (.tmp 6) 3, none⟩,
   ⟨none, .store 3 (.tmp 1) (.tmp 7), none⟩]
def c63 : SC := (.reg r63_1 [])
noncomputable def X63 (M : Mem) : Fx := ⟨Try.prog, T, 8, 63, [], [], [], M, none⟩
section
variable (M : Mem)
@[go_sem] theorem X63.P : (X63 M).P = Try.prog := rfl
@[go_sem] theorem X63.T : (X63 M).T = T := rfl
@[go_sem] theorem X63.N : (X63 M).N = 8 := rfl
@[go_sem] theorem X63.rs : (X63 M).rs = [] := rfl
@[go_sem] theorem X63.own : (X63 M).own = [] := rfl
@[go_sem] theorem X63.M0 : (X63 M).M0 = M := rfl
@[go_sem] theorem X63.ro : (X63 M).ro = none := rfl
end
theorem k63 : (Try.f63.name == "runtime.NumGoroutine") = false ∧ Try.f63.ntmps = 8 ∧ Try.f63.results.toList = [] ∧ okC (X63 fun _ => none) ((Try.f63.body).getD .skip) = true ∧ c63.bare = slim (X63 fun _ => none) ((Try.f63.body).getD .skip) := ⟨by kernel_rfl, by kernel_rfl, by kernel_rfl, by kernel_rfl, by kernel_rfl⟩
theorem a63 {al : List AV} {M : Mem} {Q : AV → Mem → Prop} (hN : al.length ≤ 8) (h : SRuns (X63 M) [.code c63] (lk (num 0 al)) M [] Q) : ACalls Try.prog 63 al M Q := ACalls.of_slim c63 [] [] (tabOf_ok _) Try.func63 (by kernel_rfl : Try.f63.body = some ((Try.f63.body).getD .skip)) 8 [] k63 hN h

-- antiquary/box.key$3
@[go_sem] def r64_1 : List SOp := [
   ⟨some 3, .load 3 (.tmp 1), none⟩,
   ⟨some 4, .move (.tmp 0), none⟩,
   ⟨some 5, .call { callee := (.builtin .max), args := #[(.tmp 3), (.tmp 4)], argTypes := #[3, 3] }, none⟩,
   ⟨none, .store 3 (.tmp 1) (.tmp 5), none⟩]
def c64 : SC := (.reg r64_1 [])
noncomputable def X64 (M : Mem) : Fx := ⟨Try.prog, T, 6, 64, [], [], [], M, none⟩
section
variable (M : Mem)
@[go_sem] theorem X64.P : (X64 M).P = Try.prog := rfl
@[go_sem] theorem X64.T : (X64 M).T = T := rfl
@[go_sem] theorem X64.N : (X64 M).N = 6 := rfl
@[go_sem] theorem X64.rs : (X64 M).rs = [] := rfl
@[go_sem] theorem X64.own : (X64 M).own = [] := rfl
@[go_sem] theorem X64.M0 : (X64 M).M0 = M := rfl
@[go_sem] theorem X64.ro : (X64 M).ro = none := rfl
end
theorem k64 : (Try.f64.name == "runtime.NumGoroutine") = false ∧ Try.f64.ntmps = 6 ∧ Try.f64.results.toList = [] ∧ okC (X64 fun _ => none) ((Try.f64.body).getD .skip) = true ∧ c64.bare = slim (X64 fun _ => none) ((Try.f64.body).getD .skip) := ⟨by kernel_rfl, by kernel_rfl, by kernel_rfl, by kernel_rfl, by kernel_rfl⟩
theorem a64 {al : List AV} {M : Mem} {Q : AV → Mem → Prop} (hN : al.length ≤ 6) (h : SRuns (X64 M) [.code c64] (lk (num 0 al)) M [] Q) : ACalls Try.prog 64 al M Q := ACalls.of_slim c64 [] [] (tabOf_ok _) Try.func64 (by kernel_rfl : Try.f64.body = some ((Try.f64.body).getD .skip)) 6 [] k64 hN h

-- antiquary/box.isVector$1
@[go_sem] def r65_1 : List SOp := [
   ⟨some 2, .assign (.const (.bool false)), none⟩]
@[go_sem] def r65_2 : List SOp := [
   ⟨some 3, .move (.tmp 0), none⟩,
   ⟨some 4, .binOp .lss 3 (.tmp 3) (.const (.int .i64 (-1000))) 3, none⟩,
   ⟨some 5, .move (.tmp 4), none⟩,
   ⟨some 6, .move (.tmp 0), (some (some 5, false))⟩,
   ⟨some 7, .binOp .gtr 3 (.tmp 6) (.const (.int .i64 1000)) 3, (some (some 5, false))⟩,
   ⟨some 8, .pick (.tmp 5) (.const (.bool true)) (.tmp 7), none⟩,
   ⟨some 2, .assign (.tmp 8), none⟩]
def c65_3 : SC := .seq (.reg r65_2 [2]) .ret
def c65_4 : SC := .seq (.reg r65_1 [0, 2]) c65_3
def c65 : SC := c65_4
noncomputable def X65 (M : Mem) : Fx := ⟨Try.prog, T, 9, 65, [(.tmp 2)], [], [], M, none⟩
section
variable (M : Mem)
@[go_sem] theorem X65.P : (X65 M).P = Try.prog := rfl
@[go_sem] theorem X65.T : (X65 M).T = T := rfl
@[go_sem] theorem X65.N : (X65 M).N = 9 := rfl
@[go_sem] theorem X65.rs : (X65 M).rs = [(.tmp 2)] := rfl
@[go_sem] theorem X65.own : (X65 M).own = [] := rfl
@[go_sem] theorem X65.M0 : (X65 M).M0 = M := rfl
@[go_sem] theorem X65.ro : (X65 M).ro = none := rfl
end
theorem k65 : (Try.f65.name == "runtime.NumGoroutine") = false ∧ Try.f65.ntmps = 9 ∧ Try.f65.results.toList = [(.tmp 2)] ∧ okC (X65 fun _ => none) ((Try.f65.body).getD .skip) = true ∧ c65.bare = slim (X65 fun _ => none) ((Try.f65.body).getD .skip) := ⟨by kernel_rfl, by kernel_rfl, by kernel_rfl, by kernel_rfl, by kernel_rfl⟩
theorem a65 {al : List AV} {M : Mem} {Q : AV → Mem → Prop} (hN : al.length ≤ 9) (h : SRuns (X65 M) [.code c65] (lk (num 0 al)) M [] Q) : ACalls Try.prog 65 al M Q := ACalls.of_slim c65 [] [] (tabOf_ok _) Try.func65 (by kernel_rfl : Try.f65.body = some ((Try.f65.body).getD .skip)) 9 [(.tmp 2)] k65 hN h

-- slices.ContainsFunc[[]int,int]
@[go_sem] def r66_1 : List SOp := [
   ⟨some 4, .assign (.const (.bool false)), none⟩]
@[go_sem] def r66_2 : List SOp := [
   ⟨some 5, .move (.tmp 0), none⟩,
   ⟨some 6, .move (.tmp 1), none⟩,
   ⟨some 7, .call { callee := (.value (.func 69)), args := #[(.tmp 5), (.tmp 6)], argTypes := #[22, 50] }, none⟩,
   ⟨some 8, .binOp .geq 3 (.tmp 7) (.const (.int .i64 0)) 3, none⟩,
   ⟨some 4, .assign (.tmp 8), none⟩]
def c66_3 : SC := .seq (.reg r66_2 [4]) .ret
def c66_4 : SC := .seq (.reg r66_1 [0, 1, 4]) c66_3
def c66 : SC := c66_4
noncomputable def X66 (M : Mem) : Fx := ⟨Try.prog, T, 9, 66, [(.tmp 4)], [], [], M, none⟩
section
variable (M : Mem)
@[go_sem] theorem X66.P : (X66 M).P = Try.prog := rfl
@[go_sem] theorem X66.T : (X66 M).T = T := rfl
@[go_sem] theorem X66.N : (X66 M).N = 9 := rfl
@[go_sem] theorem X66.rs : (X66 M).rs = [(.tmp 4)] := rfl
@[go_sem] theorem X66.own : (X66 M).own = [] := rfl
@[go_sem] theorem X66.M0 : (X66 M).M0 = M := rfl
@[go_sem] theorem X66.ro : (X66 M).ro = none := rfl
end
theorem k66 : (Try.f66.name == "runtime.NumGoroutine") = false ∧ Try.f66.ntmps = 9 ∧ Try.f66.results.toList = [(.tmp 4)] ∧ okC (X66 fun _ => none) ((Try.f66.body).getD .skip) = true ∧ c66.bare = slim (X66 fun _ => none) ((Try.f66.body).getD .skip) := ⟨by kernel_rfl, by kernel_rfl, by kernel_rfl, by kernel_rfl, by kernel_rfl⟩
theorem a66 {al : List AV} {M : Mem} {Q : AV → Mem → Prop} (hN : al.length ≤ 9) (h : SRuns (X66 M) [.code c66] (lk (num 0 al)) M [] Q) : ACalls Try.prog 66 al M Q := ACalls.of_slim c66 [] [] (tabOf_ok _) Try.func66 (by kernel_rfl : Try.f66.body = some ((Try.f66.body).getD .skip)) 9 [(.tmp 4)] k66 hN h

-- antiquary/box.pairs$1
@[go_sem] def r67_1 : List SOp := [
   ⟨some 5, .load 22 (.tmp 1), none⟩,
   ⟨some 6, .call { callee := (.builtin .len), args := #[(.tmp 5)], argTypes := #[22] }, none⟩,
   ⟨some 7, .load 22 (.tmp 2), none⟩,
   ⟨some 8, .call { callee := (.builtin .len), args := #[(.tmp 7)], argTypes := #[22] }, none⟩,
   ⟨some 9, .call { callee := (.builtin .min), args := #[(.tmp 6), (.tmp 8)], argTypes := #[3, 3] }, none⟩,
   ⟨some 10, .move (.const (.int .i64 0)), none⟩]
@[go_sem] def r67_2 : List SOp := [
   ⟨some 11, .binOp .lss 3 (.tmp 10) (.tmp 9) 3, none⟩]
def c67_3 : SC := .cond (.tmp 11) .skip (.exit 0)
@[go_sem] def r67_4 : List SOp := [
   ⟨some 12, .move (.tmp 10), none⟩,
   ⟨some 4, .assign (.tmp 12), none⟩]
@[go_sem] def r67_5 : List (SOp × List Nat) := [
   (⟨some 13, .move (.tmp 0), none⟩, [1, 2, 3, 4, 5, 6, 7, 8]),
   (⟨some 14, .load 22 (.tmp 1), none⟩, [0, 2, 5, 6, 7, 8]),
   (⟨some 15, .move (.tmp 4), none⟩, [0, 1, 5, 6, 7, 8]),
   (⟨some 16, .indexAddr 22 (.tmp 14) (.tmp 15), none⟩, [0, 5, 6, 7, 8]),
   (⟨some 17, .load 3 (.tmp 16), none⟩, [0, 5, 6, 7, 8]),
   (⟨some 18, .load 22 (.tmp 2), none⟩, [0, 1, 2, 3, 4, 6]),
   (⟨some 19, .move (.tmp 4), none⟩, [0, 1, 2, 3, 4, 5]),
   (⟨some 20, .indexAddr 22 (.tmp 18) (.tmp 19), none⟩, [0, 1, 2, 3, 4]),
   (⟨some 21, .load 3 (.tmp 20), none⟩, [0, 1, 2, 3, 4]),
   (⟨some 22, .call { callee := (.value (.tmp 13)), args := #[(.tmp 17), (.tmp 21)], argTypes := #[3, 3] }, none⟩, []),
   (⟨some 23, .unOp .not 4 (.tmp 22), none⟩, [])]
def c67_6 : SC := .cond (.tmp 23) .ret .skip
def c67_7 : SC := .seq (.draw r67_5 [0, 1, 2, 9, 10, 23]) c67_6
def c67_8 : SC := .seq (.reg r67_4 [0, 1, 2, 4, 9, 10]) c67_7
@[go_sem] def r67_9 : List SOp := [
   ⟨some 24, .binOp .add 3 (.tmp 10) (.const (.int .i64 1)) 3, none⟩,
   ⟨some 10, .move (.tmp 24), none⟩]
def c67_10 : SC := .seq (.block 1 c67_8) (.reg r67_9 [0, 1, 2, 9, 10])
def c67_11 : SC := .seq c67_3 c67_10
def c67_12 : SC := .seq (.reg r67_2 [0, 1, 2, 9, 10, 11]) c67_11
def c67_13 : SC := .seq (.reg r67_1 [0, 1, 2, 9, 10]) (.block 0 (.loop c67_12))
def c67 : SC := c67_13
noncomputable def X67 (M : Mem) : Fx := ⟨Try.prog, T, 25, 67, [], [], [], M, none⟩
section
variable (M : Mem)
@[go_sem] theorem X67.P : (X67 M).P = Try.prog := rfl
@[go_sem] theorem X67.T : (X67 M).T = T := rfl
@[go_sem] theorem X67.N : (X67 M).N = 25 := rfl
@[go_sem] theorem X67.rs : (X67 M).rs = [] := rfl
@[go_sem] theorem X67.own : (X67 M).own = [] := rfl
@[go_sem] theorem X67.M0 : (X67 M).M0 = M := rfl
@[go_sem] theorem X67.ro : (X67 M).ro = none := rfl
end
theorem k67 : (Try.f67.name == "runtime.NumGoroutine") = false ∧ Try.f67.ntmps = 25 ∧ Try.f67.results.toList = [] ∧ okC (X67 fun _ => none) ((Try.f67.body).getD .skip) = true ∧ c67.bare = slim (X67 fun _ => none) ((Try.f67.body).getD .skip) := ⟨by kernel_rfl, by kernel_rfl, by kernel_rfl, by kernel_rfl, by kernel_rfl⟩
theorem a67 {al : List AV} {M : Mem} {Q : AV → Mem → Prop} (hN : al.length ≤ 25) (h : SRuns (X67 M) [.code c67] (lk (num 0 al)) M [] Q) : ACalls Try.prog 67 al M Q := ACalls.of_slim c67 [] [] (tabOf_ok _) Try.func67 (by kernel_rfl : Try.f67.body = some ((Try.f67.body).getD .skip)) 25 [] k67 hN h

-- slices.IndexFunc[[][]int,[]int]
@[go_sem] def r68_1 : List SOp := [
   ⟨some 4, .assign (.const (.int .i64 0)), none⟩]
@[go_sem] def r68_2 : List SOp := [
   ⟨some 6, .move (.tmp 0), none⟩,
   ⟨some 7, .call { callee := (.builtin .len), args := #[(.tmp 6)], argTypes := #[59] }, none⟩,
   ⟨some 8, .move (.const (.int .i64 0)), none⟩]
@[go_sem] def r68_3 : List SOp := [
   ⟨some 9, .binOp .lss 3 (.tmp 8) (.tmp 7) 3, none⟩]
def c68_4 : SC := .cond (.tmp 9) .skip (.exit 0)
@[go_sem] def r68_5 : List SOp := [
   ⟨some 10, .move (.tmp 8), none⟩,
   ⟨some 5, .assign (.tmp 10), none⟩]
@[go_sem] def r68_6 : List SOp := [
   ⟨some 11, .move (.tmp 1), none⟩,
   ⟨some 12, .move (.tmp 0), none⟩,
   ⟨some 13, .move (.tmp 5), none⟩,
   ⟨some 14, .indexAddr 59 (.tmp 12) (.tmp 13), none⟩,
   ⟨some 15, .load 22 (.tmp 14), none⟩,
   ⟨some 16, .call { callee := (.value (.tmp 11)), args := #[(.tmp 15)], argTypes := #[22] }, none⟩]
@[go_sem] def r68_7 : List SOp := [
   ⟨some 17, .move (.tmp 5), none⟩,
   ⟨some 4, .assign (.tmp 17), none⟩]
def c68_8 : SC := .seq (.reg r68_7 [0, 1, 4, 7, 8]) .ret
def c68_9 : SC := .cond (.tmp 16) c68_8 .skip
def c68_10 : SC := .seq (.reg r68_6 [0, 1, 4, 5, 7, 8, 16]) c68_9
def c68_11 : SC := .seq (.reg r68_5 [0, 1, 4, 5, 7, 8]) c68_10
@[go_sem] def r68_12 : List SOp := [
   ⟨some 18, .binOp .add 3 (.tmp 8) (.const (.int .i64 1)) 3, none⟩,
   ⟨some 8, .move (.tmp 18), none⟩]
def c68_13 : SC := .seq (.block 1 c68_11) (.reg r68_12 [0, 1, 4, 7, 8])
def c68_14 : SC := .seq c68_4 c68_13
def c68_15 : SC := .seq (.reg r68_3 [0, 1, 4, 7, 8, 9]) c68_14
def c68_16 : SC := .seq (.reg r68_2 [0, 1, 4, 7, 8]) (.block 0 (.loop c68_15))
@[go_sem] def r68_17 : List SOp := [
   ⟨some 4, .assign (.const (.int .i64 (-1))), none⟩]
def c68_18 : SC := .seq (.reg r68_17 [4]) .ret
def c68_19 : SC := .seq c68_16 c68_18
def c68_20 : SC := .seq (.reg r68_1 [0, 1, 4]) c68_19
def c68 : SC := c68_20
noncomputable def X68 (M : Mem) : Fx := ⟨Try.prog, T, 19, 68, [(.tmp 4)], [], [], M, none⟩
section
variable (M : Mem)
@[go_sem] theorem X68.P : (X68 M).P = Try.prog := rfl
@[go_sem] theorem X68.T : (X68 M).T = T := rfl
@[go_sem] theorem X68.N : (X68 M).N = 19 := rfl
@[go_sem] theorem X68.rs : (X68 M).rs = [(.tmp 4)] := rfl
@[go_sem] theorem X68.own : (X68 M).own = [] := rfl
@[go_sem] theorem X68.M0 : (X68 M).M0 = M := rfl
@[go_sem] theorem X68.ro : (X68 M).ro = none := rfl
end
theorem k68 : (Try.f68.name == "runtime.NumGoroutine") = false ∧ Try.f68.ntmps = 19 ∧ Try.f68.results.toList = [(.tmp 4)] ∧ okC (X68 fun _ => none) ((Try.f68.body).getD .skip) = true ∧ c68.bare = slim (X68 fun _ => none) ((Try.f68.body).getD .skip) := ⟨by kernel_rfl, by kernel_rfl, by kernel_rfl, by kernel_rfl, by kernel_rfl⟩
theorem a68 {al : List AV} {M : Mem} {Q : AV → Mem → Prop} (hN : al.length ≤ 19) (h : SRuns (X68 M) [.code c68] (lk (num 0 al)) M [] Q) : ACalls Try.prog 68 al M Q := ACalls.of_slim c68 [] [] (tabOf_ok _) Try.func68 (by kernel_rfl : Try.f68.body = some ((Try.f68.body).getD .skip)) 19 [(.tmp 4)] k68 hN h

-- slices.IndexFunc[[]int,int]
@[go_sem] def r69_1 : List SOp := [
   ⟨some 4, .assign (.const (.int .i64 0)), none⟩]
@[go_sem] def r69_2 : List SOp := [
   ⟨some 6, .move (.tmp 0), none⟩,
   ⟨some 7, .call { callee := (.builtin .len), args := #[(.tmp 6)], argTypes := #[22] }, none⟩,
   ⟨some 8, .move (.const (.int .i64 0)), none⟩]
@[go_sem] def r69_3 : List SOp := [
   ⟨some 9, .binOp .lss 3 (.tmp 8) (.tmp 7) 3, none⟩]
def c69_4 : SC := .cond (.tmp 9) .skip (.exit 0)
@[go_sem] def r69_5 : List SOp := [
   ⟨some 10, .move (.tmp 8), none⟩,
   ⟨some 5, .assign (.tmp 10), none⟩]
@[go_sem] def r69_6 : List SOp := [
   ⟨some 11, .move (.tmp 1), none⟩,
   ⟨some 12, .move (.tmp 0), none⟩,
   ⟨some 13, .move (.tmp 5), none⟩,
   ⟨some 14, .indexAddr 22 (.tmp 12) (.tmp 13), none⟩,
   ⟨some 15, .load 3 (.tmp 14), none⟩,
   ⟨some 16, .call { callee := (.value (.tmp 11)), args := #[(.tmp 15)], argTypes := #[3] }, none⟩]
@[go_sem] def r69_7 : List SOp := [
   ⟨some 17, .move (.tmp 5), none⟩,
   ⟨some 4, .assign (.tmp 17), none⟩]
def c69_8 : SC := .seq (.reg r69_7 [0, 1, 4, 7, 8]) .ret
def c69_9 : SC := .cond (.tmp 16) c69_8 .skip
def c69_10 : SC := .seq (.reg r69_6 [0, 1, 4, 5, 7, 8, 16]) c69_9
def c69_11 : SC := .seq (.reg r69_5 [0, 1, 4, 5, 7, 8]) c69_10
@[go_sem] def r69_12 : List SOp := [
   ⟨some 18, .binOp .add 3 (.tmp 8) (.const (.int .i64 1)) 3, none⟩,
   ⟨some 8, .move (.tmp 18), none⟩]
def c69_13 : SC := .seq (.block 1 c69_11) (.reg r69_12 [0, 1, 4, 7, 8])
def c69_14 : SC := .seq c69_4 c69_13
def c69_15 : SC := .seq (.reg r69_3 [0, 1, 4, 7, 8, 9]) c69_14
def c69_16 : SC := .seq (.reg r69_2 [0, 1, 4, 7, 8]) (.block 0 (.loop c69_15))
@[go_sem] def r69_17 : List SOp := [
   ⟨some 4, .assign (.const (.int .i64 (-1))), none⟩]
def c69_18 : SC := .seq (.reg r69_17 [4]) .ret
def c69_19 : SC := .seq c69_16 c69_18
def c69_20 : SC := .seq (.reg r69_1 [0, 1, 4]) c69_19
def c69 : SC := c69_20
noncomputable def X69 (M : Mem) : Fx := ⟨Try.prog, T, 19, 69, [(.tmp 4)], [], [], M, none⟩
section
variable (M : Mem)
@[go_sem] theorem X69.P : (X69 M).P = Try.prog := rfl
@[go_sem] theorem X69.T : (X69 M).T = T := rfl
@[go_sem] theorem X69.N : (X69 M).N = 19 := rfl
@[go_sem] theorem X69.rs : (X69 M).rs = [(.tmp 4)] := rfl
@[go_sem] theorem X69.own : (X69 M).own = [] := rfl
@[go_sem] theorem X69.M0 : (X69 M).M0 = M := rfl
@[go_sem] theorem X69.ro : (X69 M).ro = none := rfl
end
theorem k69 : (Try.f69.name == "runtime.NumGoroutine") = false ∧ Try.f69.ntmps = 19 ∧ Try.f69.results.toList = [(.tmp 4)] ∧ okC (X69 fun _ => none) ((Try.f69.body).getD .skip) = true ∧ c69.bare = slim (X69 fun _ => none) ((Try.f69.body).getD .skip) := ⟨by kernel_rfl, by kernel_rfl, by kernel_rfl, by kernel_rfl, by kernel_rfl⟩
theorem a69 {al : List AV} {M : Mem} {Q : AV → Mem → Prop} (hN : al.length ≤ 19) (h : SRuns (X69 M) [.code c69] (lk (num 0 al)) M [] Q) : ACalls Try.prog 69 al M Q := ACalls.of_slim c69 [] [] (tabOf_ok _) Try.func69 (by kernel_rfl : Try.f69.body = some ((Try.f69.body).getD .skip)) 19 [(.tmp 4)] k69 hN h

end Go.Proofs.Ytaiinpbaaeemmaa
