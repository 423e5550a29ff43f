import Derived.Test.YtaiinpbaaeemmaaF06
set_option linter.unusedVariables false
set_option linter.unusedSimpArgs false
set_option maxRecDepth 100000
namespace Go.Proofs.Ytaiinpbaaeemmaa
open Go Go.Av
-- antiquary/antiquarylaw06.BoxMeasuresAsSpecified
@[go_sem] def r3_1 : List SOp := [
   ⟨some 6, .box 24 (.tmp 0), none⟩,
   ⟨some 7, .box 24 (.tmp 1), none⟩,
   ⟨some 12, .assign (.const (.bool false)), none⟩]
@[go_sem] def r3_2 : List SOp := [
   ⟨some 32, .load 24 (.tmp 6), none⟩,
   ⟨some 33, .call { callee := (.value (.func 9)), args := #[(.tmp 32)], argTypes := #[24] }, none⟩,
   ⟨some 34, .unOp .not 4 (.tmp 33), none⟩,
   ⟨some 35, .move (.tmp 34), none⟩,
   ⟨some 36, .load 24 (.tmp 7), (some (some 35, false))⟩,
   ⟨some 37, .call { callee := (.value (.func 9)), args := #[(.tmp 36)], argTypes := #[24] }, (some (some 35, false))⟩,
   ⟨some 38, .unOp .not 4 (.tmp 37), (some (some 35, false))⟩,
   ⟨some 39, .pick (.tmp 35) (.const (.bool true)) (.tmp 38), none⟩,
   ⟨some 40, .move (.tmp 39), none⟩,
   ⟨some 41, .move (.tmp 2), (some (some 40, false))⟩,
   ⟨some 42, .call { callee := (.builtin .len), args := #[(.tmp 41)], argTypes := #[22] }, (some (some 40, false))⟩,
   ⟨some 43, .binOp .gtr 3 (.tmp 42) (.const (.int .i64 40)) 3, (some (some 40, false))⟩,
   ⟨some 44, .pick (.tmp 40) (.const (.bool true)) (.tmp 43), none⟩]
@[go_sem] def r3_3 : List SOp := [
   ⟨some 45, .call { callee := (.value (.func 10)), args := #[], argTypes := #[] }, none⟩,
   ⟨some 12, .assign (.tmp 45), none⟩]
def c3_4 : SC := .seq (.reg r3_3 [2, 3, 4, 5, 6, 7, 12]) .ret
def c3_5 : SC := .cond (.tmp 44) c3_4 .skip
def c3_6 : SC := .seq (.reg r3_2 [2, 3, 4, 5, 6, 7, 12, 44]) c3_5
@[go_sem] def r3_7 : List SOp := [
   ⟨some 47, .move (.tmp 3), none⟩,
   ⟨some 48, .load 24 (.tmp 6), none⟩,
   ⟨some 49, .move (.tmp 2), none⟩,
   ⟨some 50, .call { callee := (.value (.func 11)), args := #[(.tmp 47), (.tmp 48), (.tmp 49)], argTypes := #[3, 24, 22] }, none⟩,
   ⟨some 46, .move (.tmp 50), none⟩,
   ⟨some 51, .extract (.tmp 46) 0, none⟩,
   ⟨some 52, .extract (.tmp 46) 1, none⟩,
   ⟨some 13, .assign (.tmp 51), none⟩,
   ⟨some 14, .assign (.tmp 52), none⟩]
@[go_sem] def r3_8 : List SOp := [
   ⟨some 54, .move (.tmp 3), none⟩,
   ⟨some 55, .load 24 (.tmp 6), none⟩,
   ⟨some 56, .move (.tmp 2), none⟩,
   ⟨some 57, .call { callee := (.value (.func 12)), args := #[(.tmp 54), (.tmp 55), (.tmp 56)], argTypes := #[3, 24, 22] }, none⟩,
   ⟨some 53, .move (.tmp 57), none⟩,
   ⟨some 58, .extract (.tmp 53) 0, none⟩,
   ⟨some 59, .extract (.tmp 53) 1, none⟩,
   ⟨some 15, .assign (.tmp 58), none⟩,
   ⟨some 16, .assign (.tmp 59), none⟩]
@[go_sem] def r3_9 : List SOp := [
   ⟨some 61, .move (.tmp 3), none⟩,
   ⟨some 62, .load 24 (.tmp 6), none⟩,
   ⟨some 63, .load 24 (.tmp 7), none⟩,
   ⟨some 64, .call { callee := (.value (.func 13)), args := #[(.tmp 61), (.tmp 62), (.tmp 63)], argTypes := #[3, 24, 24] }, none⟩,
   ⟨some 60, .move (.tmp 64), none⟩,
   ⟨some 65, .extract (.tmp 60) 0, none⟩,
   ⟨some 66, .extract (.tmp 60) 1, none⟩,
   ⟨some 17, .assign (.tmp 65), none⟩,
   ⟨some 18, .assign (.tmp 66), none⟩]
@[go_sem] def r3_10 : List SOp := [
   ⟨some 68, .load 24 (.tmp 6), none⟩,
   ⟨some 69, .move (.tmp 4), none⟩,
   ⟨some 70, .move (.tmp 5), none⟩,
   ⟨some 71, .call { callee := (.value (.func 14)), args := #[(.tmp 68), (.tmp 69), (.tmp 70)], argTypes := #[24, 3, 3] }, none⟩,
   ⟨some 67, .move (.tmp 71), none⟩,
   ⟨some 72, .extract (.tmp 67) 0, none⟩,
   ⟨some 73, .extract (.tmp 67) 1, none⟩,
   ⟨some 74, .extract (.tmp 67) 2, none⟩,
   ⟨some 19, .alloc 24, none⟩,
   ⟨some 20, .alloc 24, none⟩,
   ⟨none, .store 24 (.tmp 19) (.tmp 72), none⟩,
   ⟨none, .store 24 (.tmp 20) (.tmp 73), none⟩,
   ⟨some 21, .assign (.tmp 74), none⟩]
@[go_sem] def r3_11 : List SOp := [
   ⟨some 76, .load 24 (.tmp 6), none⟩,
   ⟨some 77, .call { callee := (.value (.func 15)), args := #[(.tmp 76)], argTypes := #[24] }, none⟩,
   ⟨some 75, .move (.tmp 77), none⟩,
   ⟨some 78, .extract (.tmp 75) 0, none⟩,
   ⟨some 79, .extract (.tmp 75) 1, none⟩,
   ⟨some 80, .extract (.tmp 75) 2, none⟩,
   ⟨some 22, .assign (.tmp 78), none⟩,
   ⟨some 23, .assign (.tmp 79), none⟩,
   ⟨some 24, .assign (.tmp 80), none⟩]
@[go_sem] def r3_12 : List SOp := [
   ⟨some 81, .move (.tmp 3), none⟩,
   ⟨some 82, .load 24 (.tmp 6), none⟩,
   ⟨some 83, .move (.tmp 2), none⟩,
   ⟨some 84, .call { callee := (.value (.func 16)), args := #[(.tmp 81), (.tmp 82), (.tmp 83)], argTypes := #[3, 24, 22] }, none⟩,
   ⟨some 25, .alloc 36, none⟩,
   ⟨none, .store 36 (.tmp 25) (.tmp 84), none⟩]
@[go_sem] def r3_13 : List SOp := [
   ⟨some 85, .move (.tmp 3), none⟩,
   ⟨some 86, .load 24 (.tmp 6), none⟩,
   ⟨some 87, .move (.tmp 2), none⟩,
   ⟨some 88, .call { callee := (.value (.func 17)), args := #[(.tmp 85), (.tmp 86), (.tmp 87)], argTypes := #[3, 24, 22] }, none⟩,
   ⟨some 26, .alloc 36, none⟩,
   ⟨none, .store 36 (.tmp 26) (.tmp 88), none⟩]
@[go_sem] def r3_14 : List SOp := [
   ⟨some 89, .move (.tmp 3), none⟩,
   ⟨some 90, .load 24 (.tmp 6), none⟩,
   ⟨some 91, .load 24 (.tmp 7), none⟩,
   ⟨some 92, .call { callee := (.value (.func 18)), args := #[(.tmp 89), (.tmp 90), (.tmp 91)], argTypes := #[3, 24, 24] }, none⟩,
   ⟨some 27, .alloc 36, none⟩,
   ⟨none, .store 36 (.tmp 27) (.tmp 92), none⟩]
@[go_sem] def r3_15 : List SOp := [
   ⟨some 93, .load 24 (.tmp 6), none⟩,
   ⟨some 94, .move (.tmp 4), none⟩,
   ⟨some 95, .move (.tmp 5), none⟩,
   ⟨some 96, .call { callee := (.value (.func 19)), args := #[(.tmp 93), (.tmp 94), (.tmp 95)], argTypes := #[24, 3, 3] }, none⟩,
   ⟨some 28, .alloc 40, none⟩,
   ⟨none, .store 40 (.tmp 28) (.tmp 96), none⟩]
@[go_sem] def r3_16 : List SOp := [
   ⟨some 97, .load 24 (.tmp 6), none⟩,
   ⟨some 98, .call { callee := (.value (.func 20)), args := #[(.tmp 97)], argTypes := #[24] }, none⟩,
   ⟨some 29, .alloc 43, none⟩,
   ⟨none, .store 43 (.tmp 29) (.tmp 98), none⟩]
@[go_sem] def r3_17 : List SOp := [
   ⟨some 99, .move (.tmp 13), none⟩,
   ⟨some 100, .fieldAddr 36 (.tmp 25) 0, none⟩,
   ⟨some 101, .load 3 (.tmp 100), none⟩,
   ⟨some 102, .binOp .eql 3 (.tmp 99) (.tmp 101) 3, none⟩,
   ⟨some 103, .move (.tmp 102), none⟩,
   ⟨some 104, .move (.tmp 14), (some (some 103, true))⟩,
   ⟨some 105, .fieldAddr 36 (.tmp 25) 1, (some (some 103, true))⟩,
   ⟨some 106, .load 27 (.tmp 105), (some (some 103, true))⟩,
   ⟨some 107, .binOp .eql 27 (.tmp 104) (.tmp 106) 27, (some (some 103, true))⟩,
   ⟨some 108, .pick (.tmp 103) (.tmp 107) (.const (.bool false)), none⟩,
   ⟨some 109, .move (.tmp 108), none⟩,
   ⟨some 110, .move (.tmp 15), (some (some 109, true))⟩,
   ⟨some 111, .fieldAddr 36 (.tmp 26) 0, (some (some 109, true))⟩,
   ⟨some 112, .load 3 (.tmp 111), (some (some 109, true))⟩,
   ⟨some 113, .binOp .eql 3 (.tmp 110) (.tmp 112) 3, (some (some 109, true))⟩,
   ⟨some 114, .pick (.tmp 109) (.tmp 113) (.const (.bool false)), none⟩,
   ⟨some 115, .move (.tmp 114), none⟩,
   ⟨some 116, .move (.tmp 16), (some (some 115, true))⟩,
   ⟨some 117, .fieldAddr 36 (.tmp 26) 1, (some (some 115, true))⟩,
   ⟨some 118, .load 27 (.tmp 117), (some (some 115, true))⟩,
   ⟨some 119, .binOp .eql 27 (.tmp 116) (.tmp 118) 27, (some (some 115, true))⟩,
   ⟨some 120, .pick (.tmp 115) (.tmp 119) (.const (.bool false)), none⟩,
   ⟨some 121, .move (.tmp 120), none⟩,
   ⟨some 122, .move (.tmp 17), (some (some 121, true))⟩,
   ⟨some 123, .fieldAddr 36 (.tmp 27) 0, (some (some 121, true))⟩,
   ⟨some 124, .load 3 (.tmp 123), (some (some 121, true))⟩,
   ⟨some 125, .binOp .eql 3 (.tmp 122) (.tmp 124) 3, (some (some 121, true))⟩,
   ⟨some 126, .pick (.tmp 121) (.tmp 125) (.const (.bool false)), none⟩,
   ⟨some 127, .move (.tmp 126), none⟩,
   ⟨some 128, .move (.tmp 18), (some (some 127, true))⟩,
   ⟨some 129, .fieldAddr 36 (.tmp 27) 1, (some (some 127, true))⟩,
   ⟨some 130, .load 27 (.tmp 129), (some (some 127, true))⟩,
   ⟨some 131, .binOp .eql 27 (.tmp 128) (.tmp 130) 27, (some (some 127, true))⟩,
   ⟨some 132, .pick (.tmp 127) (.tmp 131) (.const (.bool false)), none⟩,
   ⟨some 30, .assign (.tmp 132), none⟩]
@[go_sem] def r3_18 : List SOp := [
   ⟨some 133, .load 24 (.tmp 19), none⟩,
   ⟨some 134, .fieldAddr 40 (.tmp 28) 0, none⟩,
   ⟨some 135, .load 24 (.tmp 134), none⟩,
   ⟨some 136, .call { callee := (.value (.func 21)), args := #[(.tmp 133), (.tmp 135)], argTypes := #[24, 24] }, none⟩,
   ⟨some 137, .move (.tmp 136), none⟩,
   ⟨some 138, .load 24 (.tmp 20), (some (some 137, true))⟩,
   ⟨some 139, .fieldAddr 40 (.tmp 28) 1, (some (some 137, true))⟩,
   ⟨some 140, .load 24 (.tmp 139), (some (some 137, true))⟩,
   ⟨some 141, .call { callee := (.value (.func 21)), args := #[(.tmp 138), (.tmp 140)], argTypes := #[24, 24] }, (some (some 137, true))⟩,
   ⟨some 142, .pick (.tmp 137) (.tmp 141) (.const (.bool false)), none⟩,
   ⟨some 143, .move (.tmp 142), none⟩,
   ⟨some 144, .move (.tmp 21), (some (some 143, true))⟩,
   ⟨some 145, .fieldAddr 40 (.tmp 28) 2, (some (some 143, true))⟩,
   ⟨some 146, .load 27 (.tmp 145), (some (some 143, true))⟩,
   ⟨some 147, .binOp .eql 27 (.tmp 144) (.tmp 146) 27, (some (some 143, true))⟩,
   ⟨some 148, .pick (.tmp 143) (.tmp 147) (.const (.bool false)), none⟩,
   ⟨some 149, .move (.tmp 148), none⟩,
   ⟨some 150, .move (.tmp 22), (some (some 149, true))⟩,
   ⟨some 151, .fieldAddr 43 (.tmp 29) 0, (some (some 149, true))⟩,
   ⟨some 152, .load 3 (.tmp 151), (some (some 149, true))⟩,
   ⟨some 153, .binOp .eql 3 (.tmp 150) (.tmp 152) 3, (some (some 149, true))⟩,
   ⟨some 154, .pick (.tmp 149) (.tmp 153) (.const (.bool false)), none⟩,
   ⟨some 155, .move (.tmp 154), none⟩,
   ⟨some 156, .move (.tmp 23), (some (some 155, true))⟩,
   ⟨some 157, .fieldAddr 43 (.tmp 29) 1, (some (some 155, true))⟩,
   ⟨some 158, .load 3 (.tmp 157), (some (some 155, true))⟩,
   ⟨some 159, .binOp .eql 3 (.tmp 156) (.tmp 158) 3, (some (some 155, true))⟩,
   ⟨some 160, .pick (.tmp 155) (.tmp 159) (.const (.bool false)), none⟩,
   ⟨some 161, .move (.tmp 160), none⟩,
   ⟨some 162, .move (.tmp 24), (some (some 161, true))⟩,
   ⟨some 163, .fieldAddr 43 (.tmp 29) 2, (some (some 161, true))⟩,
   ⟨some 164, .load 27 (.tmp 163), (some (some 161, true))⟩,
   ⟨some 165, .binOp .eql 27 (.tmp 162) (.tmp 164) 27, (some (some 161, true))⟩,
   ⟨some 166, .pick (.tmp 161) (.tmp 165) (.const (.bool false)), none⟩,
   ⟨some 31, .assign (.tmp 166), none⟩]
@[go_sem] def r3_19 : List (SOp × List Nat) := [
   (⟨some 167, .call { callee := (.value (.func 10)), args := #[], argTypes := #[] }, none⟩, []),
   (⟨some 168, .move (.tmp 167), none⟩, []),
   (⟨some 169, .move (.tmp 30), (some (some 168, true))⟩, []),
   (⟨some 170, .pick (.tmp 168) (.tmp 169) (.const (.bool false)), none⟩, []),
   (⟨some 171, .move (.tmp 170), none⟩, []),
   (⟨some 172, .move (.tmp 31), (some (some 171, true))⟩, []),
   (⟨some 173, .pick (.tmp 171) (.tmp 172) (.const (.bool false)), none⟩, []),
   (⟨some 174, .move (.tmp 173), none⟩, []),
   (⟨some 175, .load 24 (.tmp 6), (some (some 174, true))⟩, [9, 11, 12]),
   (⟨some 176, .move (.tmp 2), (some (some 174, true))⟩, [8, 11, 12]),
   (⟨some 177, .call { callee := (.value (.func 22)), args := #[(.tmp 175), (.tmp 176)], argTypes := #[24, 22] }, (some (some 174, true))⟩, [11, 12]),
   (⟨some 178, .load 24 (.tmp 6), (some (some 174, true))⟩, [8, 9, 10, 12]),
   (⟨some 179, .move (.tmp 2), (some (some 174, true))⟩, [8, 9, 10, 11]),
   (⟨some 180, .call { callee := (.value (.func 23)), args := #[(.tmp 178), (.tmp 179)], argTypes := #[24, 22] }, (some (some 174, true))⟩, []),
   (⟨some 181, .binOp .eql 4 (.tmp 177) (.tmp 180) 4, (some (some 174, true))⟩, []),
   (⟨some 182, .pick (.tmp 174) (.tmp 181) (.const (.bool false)), none⟩, []),
   (⟨some 12, .assign (.tmp 182), none⟩, [])]
def c3_20 : SC := .seq (.draw r3_19 [12]) .ret
def c3_21 : SC := .seq (.reg r3_18 [2, 6, 12, 30, 31]) c3_20
def c3_22 : SC := .seq (.reg r3_17 [2, 6, 12, 19, 20, 21, 22, 23, 24, 28, 29, 30]) c3_21
def c3_23 : SC := .seq (.reg r3_16 [2, 6, 12, 13, 14, 15, 16, 17, 18, 19, 20, 21, 22, 23, 24, 25, 26, 27, 28, 29]) c3_22
def c3_24 : SC := .seq (.reg r3_15 [2, 6, 12, 13, 14, 15, 16, 17, 18, 19, 20, 21, 22, 23, 24, 25, 26, 27, 28]) c3_23
def c3_25 : SC := .seq (.reg r3_14 [2, 4, 5, 6, 12, 13, 14, 15, 16, 17, 18, 19, 20, 21, 22, 23, 24, 25, 26, 27]) c3_24
def c3_26 : SC := .seq (.reg r3_13 [2, 3, 4, 5, 6, 7, 12, 13, 14, 15, 16, 17, 18, 19, 20, 21, 22, 23, 24, 25, 26]) c3_25
def c3_27 : SC := .seq (.reg r3_12 [2, 3, 4, 5, 6, 7, 12, 13, 14, 15, 16, 17, 18, 19, 20, 21, 22, 23, 24, 25]) c3_26
def c3_28 : SC := .seq (.reg r3_11 [2, 3, 4, 5, 6, 7, 12, 13, 14, 15, 16, 17, 18, 19, 20, 21, 22, 23, 24]) c3_27
def c3_29 : SC := .seq (.reg r3_10 [2, 3, 4, 5, 6, 7, 12, 13, 14, 15, 16, 17, 18, 19, 20, 21]) c3_28
def c3_30 : SC := .seq (.reg r3_9 [2, 3, 4, 5, 6, 7, 12, 13, 14, 15, 16, 17, 18]) c3_29
def c3_31 : SC := .seq (.reg r3_8 [2, 3, 4, 5, 6, 7, 12, 13, 14, 15, 16]) c3_30
def c3_32 : SC := .seq (.reg r3_7 [2, 3, 4, 5, 6, 7, 12, 13, 14]) c3_31
def c3_33 : SC := .seq c3_6 c3_32
def c3_34 : SC := .seq (.reg r3_1 [2, 3, 4, 5, 6, 7, 12]) c3_33
def c3 : SC := c3_34
noncomputable def X3 (M : Mem) : Fx := ⟨Try.prog, T, 183, 3, [(.tmp 12)], [], [], M, none⟩
section
variable (M : Mem)
@[go_sem] theorem X3.P : (X3 M).P = Try.prog := rfl
@[go_sem] theorem X3.T : (X3 M).T = T := rfl
@[go_sem] theorem X3.N : (X3 M).N = 183 := rfl
@[go_sem] theorem X3.rs : (X3 M).rs = [(.tmp 12)] := rfl
@[go_sem] theorem X3.own : (X3 M).own = [] := rfl
@[go_sem] theorem X3.M0 : (X3 M).M0 = M := rfl
@[go_sem] theorem X3.ro : (X3 M).ro = none := rfl
end
theorem k3 : (Try.f3.name == "runtime.NumGoroutine") = false ∧ Try.f3.ntmps = 183 ∧ Try.f3.results.toList = [(.tmp 12)] ∧ okC (X3 fun _ => none) ((Try.f3.body).getD .skip) = true ∧ c3.bare = slim (X3 fun _ => none) ((Try.f3.body).getD .skip) := ⟨by kernel_rfl, by kernel_rfl, by kernel_rfl, by kernel_rfl, by kernel_rfl⟩
theorem a3 {al : List AV} {M : Mem} {Q : AV → Mem → Prop} (hN : al.length ≤ 183) (h : SRuns (X3 M) [.code c3] (lk (num 0 al)) M [] Q) : ACalls Try.prog 3 al M Q := ACalls.of_slim c3 [] [] (tabOf_ok _) Try.func3 (by kernel_rfl : Try.f3.body = some ((Try.f3.body).getD .skip)) 183 [(.tmp 12)] k3 hN h

-- antiquary/antiquarylaw06.BoxBoundsKeys
@[go_sem] def r4_1 : List SOp := [
   ⟨some 7, .box 24 (.tmp 1), none⟩,
   ⟨some 8, .box 24 (.tmp 2), none⟩,
   ⟨some 12, .assign (.const (.bool false)), none⟩]
@[go_sem] def r4_2 : List SOp := [
   ⟨some 24, .load 24 (.tmp 7), none⟩,
   ⟨some 25, .call { callee := (.value (.func 9)), args := #[(.tmp 24)], argTypes := #[24] }, none⟩,
   ⟨some 26, .unOp .not 4 (.tmp 25), none⟩,
   ⟨some 27, .move (.tmp 26), none⟩,
   ⟨some 28, .load 24 (.tmp 8), (some (some 27, false))⟩,
   ⟨some 29, .call { callee := (.value (.func 9)), args := #[(.tmp 28)], argTypes := #[24] }, (some (some 27, false))⟩,
   ⟨some 30, .unOp .not 4 (.tmp 29), (some (some 27, false))⟩,
   ⟨some 31, .pick (.tmp 27) (.const (.bool true)) (.tmp 30), none⟩,
   ⟨some 32, .move (.tmp 31), none⟩,
   ⟨some 33, .load 24 (.tmp 7), (some (some 32, false))⟩,
   ⟨some 34, .call { callee := (.value (.func 24)), args := #[(.tmp 33)], argTypes := #[24] }, (some (some 32, false))⟩,
   ⟨some 35, .unOp .not 4 (.tmp 34), (some (some 32, false))⟩,
   ⟨some 36, .pick (.tmp 32) (.const (.bool true)) (.tmp 35), none⟩,
   ⟨some 37, .move (.tmp 36), none⟩,
   ⟨some 38, .move (.tmp 3), (some (some 37, false))⟩,
   ⟨some 39, .call { callee := (.value (.func 25)), args := #[(.tmp 38)], argTypes := #[22] }, (some (some 37, false))⟩,
   ⟨some 40, .unOp .not 4 (.tmp 39), (some (some 37, false))⟩,
   ⟨some 41, .pick (.tmp 37) (.const (.bool true)) (.tmp 40), none⟩,
   ⟨some 42, .move (.tmp 41), none⟩,
   ⟨some 43, .move (.tmp 3), (some (some 42, false))⟩,
   ⟨some 44, .call { callee := (.builtin .len), args := #[(.tmp 43)], argTypes := #[22] }, (some (some 42, false))⟩,
   ⟨some 45, .fieldAddr 24 (.tmp 7) 0, (some (some 42, false))⟩,
   ⟨some 46, .load 22 (.tmp 45), (some (some 42, false))⟩,
   ⟨some 47, .call { callee := (.builtin .len), args := #[(.tmp 46)], argTypes := #[22] }, (some (some 42, false))⟩,
   ⟨some 48, .binOp .neq 3 (.tmp 44) (.tmp 47) 3, (some (some 42, false))⟩,
   ⟨some 49, .pick (.tmp 42) (.const (.bool true)) (.tmp 48), none⟩,
   ⟨some 50, .move (.tmp 49), none⟩,
   ⟨some 51, .move (.tmp 0), (some (some 50, false))⟩,
   ⟨some 52, .call { callee := (.value (.func 26)), args := #[(.tmp 51)], argTypes := #[3] }, (some (some 50, false))⟩,
   ⟨some 53, .unOp .not 4 (.tmp 52), (some (some 50, false))⟩,
   ⟨some 54, .pick (.tmp 50) (.const (.bool true)) (.tmp 53), none⟩]
@[go_sem] def r4_3 : List SOp := [
   ⟨some 55, .call { callee := (.value (.func 10)), args := #[], argTypes := #[] }, none⟩,
   ⟨some 12, .assign (.tmp 55), none⟩]
def c4_4 : SC := .seq (.reg r4_3 [0, 3, 4, 5, 7, 8, 12]) .ret
def c4_5 : SC := .cond (.tmp 54) c4_4 .skip
def c4_6 : SC := .seq (.reg r4_2 [0, 3, 4, 5, 7, 8, 12, 54]) c4_5
@[go_sem] def r4_7 : List SOp := [
   ⟨some 56, .load 24 (.tmp 7), none⟩,
   ⟨some 57, .move (.tmp 4), none⟩,
   ⟨some 58, .call { callee := (.value (.func 27)), args := #[(.tmp 56), (.tmp 57)], argTypes := #[24, 48] }, none⟩,
   ⟨some 13, .assign (.tmp 58), none⟩]
@[go_sem] def r4_8 : List SOp := [
   ⟨some 60, .move (.tmp 0), none⟩,
   ⟨some 61, .load 24 (.tmp 7), none⟩,
   ⟨some 62, .move (.tmp 3), none⟩,
   ⟨some 63, .call { callee := (.value (.func 11)), args := #[(.tmp 60), (.tmp 61), (.tmp 62)], argTypes := #[3, 24, 22] }, none⟩,
   ⟨some 59, .move (.tmp 63), none⟩,
   ⟨some 64, .extract (.tmp 59) 0, none⟩,
   ⟨some 65, .extract (.tmp 59) 1, none⟩,
   ⟨some 14, .assign (.tmp 64), none⟩,
   ⟨some 15, .assign (.tmp 65), none⟩]
@[go_sem] def r4_9 : List SOp := [
   ⟨some 67, .move (.tmp 0), none⟩,
   ⟨some 68, .load 24 (.tmp 7), none⟩,
   ⟨some 69, .move (.tmp 3), none⟩,
   ⟨some 70, .call { callee := (.value (.func 12)), args := #[(.tmp 67), (.tmp 68), (.tmp 69)], argTypes := #[3, 24, 22] }, none⟩,
   ⟨some 66, .move (.tmp 70), none⟩,
   ⟨some 71, .extract (.tmp 66) 0, none⟩,
   ⟨some 72, .extract (.tmp 66) 1, none⟩,
   ⟨some 16, .assign (.tmp 71), none⟩,
   ⟨some 17, .assign (.tmp 72), none⟩]
@[go_sem] def r4_10 : List SOp := [
   ⟨some 73, .move (.tmp 0), none⟩,
   ⟨some 74, .move (.tmp 3), none⟩,
   ⟨some 75, .move (.tmp 13), none⟩,
   ⟨some 76, .call { callee := (.value (.func 28)), args := #[(.tmp 73), (.tmp 74), (.tmp 75)], argTypes := #[3, 22, 22] }, none⟩,
   ⟨some 18, .assign (.tmp 76), none⟩]
@[go_sem] def r4_11 : List SOp := [
   ⟨some 77, .move (.tmp 15), none⟩,
   ⟨some 78, .binOp .neq 27 (.tmp 77) (.const (.int .i64 0)) 27, none⟩,
   ⟨some 79, .move (.tmp 78), none⟩,
   ⟨some 80, .move (.tmp 17), (some (some 79, false))⟩,
   ⟨some 81, .binOp .neq 27 (.tmp 80) (.const (.int .i64 0)) 27, (some (some 79, false))⟩,
   ⟨some 82, .pick (.tmp 79) (.const (.bool true)) (.tmp 81), none⟩,
   ⟨some 83, .move (.tmp 82), none⟩,
   ⟨some 84, .load 24 (.tmp 7), (some (some 83, false))⟩,
   ⟨some 85, .move (.tmp 13), (some (some 83, false))⟩,
   ⟨some 86, .call { callee := (.value (.func 22)), args := #[(.tmp 84), (.tmp 85)], argTypes := #[24, 22] }, (some (some 83, false))⟩,
   ⟨some 87, .unOp .not 4 (.tmp 86), (some (some 83, false))⟩,
   ⟨some 88, .pick (.tmp 83) (.const (.bool true)) (.tmp 87), none⟩,
   ⟨some 89, .move (.tmp 88), none⟩,
   ⟨some 90, .move (.tmp 18), (some (some 89, false))⟩,
   ⟨some 91, .move (.tmp 14), (some (some 89, false))⟩,
   ⟨some 92, .binOp .lss 3 (.tmp 90) (.tmp 91) 3, (some (some 89, false))⟩,
   ⟨some 93, .pick (.tmp 89) (.const (.bool true)) (.tmp 92), none⟩,
   ⟨some 94, .move (.tmp 93), none⟩,
   ⟨some 95, .move (.tmp 18), (some (some 94, false))⟩,
   ⟨some 96, .move (.tmp 16), (some (some 94, false))⟩,
   ⟨some 97, .binOp .gtr 3 (.tmp 95) (.tmp 96) 3, (some (some 94, false))⟩,
   ⟨some 98, .pick (.tmp 94) (.const (.bool true)) (.tmp 97), none⟩,
   ⟨some 99, .move (.tmp 98), none⟩,
   ⟨some 100, .move (.tmp 14), (some (some 99, false))⟩,
   ⟨some 101, .binOp .eql 3 (.tmp 100) (.const (.int .i64 0)) 3, (some (some 99, false))⟩,
   ⟨some 102, .load 24 (.tmp 7), (some (some 99, false))⟩,
   ⟨some 103, .move (.tmp 3), (some (some 99, false))⟩,
   ⟨some 104, .call { callee := (.value (.func 22)), args := #[(.tmp 102), (.tmp 103)], argTypes := #[24, 22] }, (some (some 99, false))⟩,
   ⟨some 105, .binOp .neq 4 (.tmp 101) (.tmp 104) 4, (some (some 99, false))⟩,
   ⟨some 106, .pick (.tmp 99) (.const (.bool true)) (.tmp 105), none⟩,
   ⟨some 107, .move (.tmp 106), none⟩,
   ⟨some 108, .move (.tmp 16), (some (some 107, false))⟩,
   ⟨some 109, .binOp .gtr 3 (.tmp 108) (.const (.int .i64 134217728)) 3, (some (some 107, false))⟩,
   ⟨some 110, .pick (.tmp 107) (.const (.bool true)) (.tmp 109), none⟩]
@[go_sem] def r4_12 : List SOp := [
   ⟨some 12, .assign (.const (.bool false)), none⟩]
def c4_13 : SC := .seq (.reg r4_12 [0, 5, 7, 8, 12, 13]) .ret
def c4_14 : SC := .cond (.tmp 110) c4_13 .skip
def c4_15 : SC := .seq (.reg r4_11 [0, 5, 7, 8, 12, 13, 110]) c4_14
@[go_sem] def r4_16 : List SOp := [
   ⟨some 111, .load 24 (.tmp 8), none⟩,
   ⟨some 112, .call { callee := (.value (.func 24)), args := #[(.tmp 111)], argTypes := #[24] }, none⟩,
   ⟨some 113, .unOp .not 4 (.tmp 112), none⟩,
   ⟨some 114, .move (.tmp 113), none⟩,
   ⟨some 115, .fieldAddr 24 (.tmp 8) 0, (some (some 114, false))⟩,
   ⟨some 116, .load 22 (.tmp 115), (some (some 114, false))⟩,
   ⟨some 117, .call { callee := (.builtin .len), args := #[(.tmp 116)], argTypes := #[22] }, (some (some 114, false))⟩,
   ⟨some 118, .fieldAddr 24 (.tmp 7) 0, (some (some 114, false))⟩,
   ⟨some 119, .load 22 (.tmp 118), (some (some 114, false))⟩,
   ⟨some 120, .call { callee := (.builtin .len), args := #[(.tmp 119)], argTypes := #[22] }, (some (some 114, false))⟩,
   ⟨some 121, .binOp .neq 3 (.tmp 117) (.tmp 120) 3, (some (some 114, false))⟩,
   ⟨some 122, .pick (.tmp 114) (.const (.bool true)) (.tmp 121), none⟩]
@[go_sem] def r4_17 : List SOp := [
   ⟨some 123, .call { callee := (.value (.func 10)), args := #[], argTypes := #[] }, none⟩,
   ⟨some 12, .assign (.tmp 123), none⟩]
def c4_18 : SC := .seq (.reg r4_17 [0, 5, 7, 8, 12, 13]) .ret
def c4_19 : SC := .cond (.tmp 122) c4_18 .skip
def c4_20 : SC := .seq (.reg r4_16 [0, 5, 7, 8, 12, 13, 122]) c4_19
@[go_sem] def r4_21 : List SOp := [
   ⟨some 125, .move (.tmp 0), none⟩,
   ⟨some 126, .load 24 (.tmp 7), none⟩,
   ⟨some 127, .load 24 (.tmp 8), none⟩,
   ⟨some 128, .call { callee := (.value (.func 13)), args := #[(.tmp 125), (.tmp 126), (.tmp 127)], argTypes := #[3, 24, 24] }, none⟩,
   ⟨some 124, .move (.tmp 128), none⟩,
   ⟨some 129, .extract (.tmp 124) 0, none⟩,
   ⟨some 130, .extract (.tmp 124) 1, none⟩,
   ⟨some 19, .assign (.tmp 129), none⟩,
   ⟨some 20, .assign (.tmp 130), none⟩]
@[go_sem] def r4_22 : List SOp := [
   ⟨some 132, .load 24 (.tmp 7), none⟩,
   ⟨some 133, .load 24 (.tmp 8), none⟩,
   ⟨some 134, .call { callee := (.value (.func 29)), args := #[(.tmp 132), (.tmp 133)], argTypes := #[24, 24] }, none⟩,
   ⟨some 131, .move (.tmp 134), none⟩,
   ⟨some 135, .extract (.tmp 131) 0, none⟩,
   ⟨some 136, .extract (.tmp 131) 1, none⟩,
   ⟨some 137, .extract (.tmp 131) 2, none⟩,
   ⟨some 21, .alloc 24, none⟩,
   ⟨none, .store 24 (.tmp 21) (.tmp 135), none⟩,
   ⟨some 22, .assign (.tmp 136), none⟩,
   ⟨some 23, .assign (.tmp 137), none⟩]
@[go_sem] def r4_23 : List SOp := [
   ⟨some 138, .call { callee := (.value (.func 10)), args := #[], argTypes := #[] }, none⟩,
   ⟨some 139, .move (.tmp 138), none⟩,
   ⟨some 140, .move (.tmp 20), (some (some 139, true))⟩,
   ⟨some 141, .binOp .eql 27 (.tmp 140) (.const (.int .i64 0)) 27, (some (some 139, true))⟩,
   ⟨some 142, .pick (.tmp 139) (.tmp 141) (.const (.bool false)), none⟩,
   ⟨some 143, .move (.tmp 142), none⟩,
   ⟨some 144, .move (.tmp 23), (some (some 143, true))⟩,
   ⟨some 145, .binOp .eql 27 (.tmp 144) (.const (.int .i64 0)) 27, (some (some 143, true))⟩,
   ⟨some 146, .pick (.tmp 143) (.tmp 145) (.const (.bool false)), none⟩,
   ⟨some 147, .move (.tmp 146), none⟩,
   ⟨some 148, .move (.tmp 0), (some (some 147, true))⟩,
   ⟨some 149, .move (.tmp 13), (some (some 147, true))⟩,
   ⟨some 150, .load 24 (.tmp 8), (some (some 147, true))⟩,
   ⟨some 151, .move (.tmp 5), (some (some 147, true))⟩,
   ⟨some 152, .call { callee := (.value (.func 27)), args := #[(.tmp 150), (.tmp 151)], argTypes := #[24, 48] }, (some (some 147, true))⟩,
   ⟨some 153, .call { callee := (.value (.func 28)), args := #[(.tmp 148), (.tmp 149), (.tmp 152)], argTypes := #[3, 22, 22] }, (some (some 147, true))⟩,
   ⟨some 154, .move (.tmp 19), (some (some 147, true))⟩,
   ⟨some 155, .binOp .geq 3 (.tmp 153) (.tmp 154) 3, (some (some 147, true))⟩,
   ⟨some 156, .pick (.tmp 147) (.tmp 155) (.const (.bool false)), none⟩,
   ⟨some 157, .move (.tmp 156), none⟩,
   ⟨some 158, .move (.tmp 19), (some (some 157, true))⟩,
   ⟨some 159, .binOp .eql 3 (.tmp 158) (.const (.int .i64 0)) 3, (some (some 157, true))⟩,
   ⟨some 160, .move (.tmp 22), (some (some 157, true))⟩,
   ⟨some 161, .binOp .eql 4 (.tmp 159) (.tmp 160) 4, (some (some 157, true))⟩,
   ⟨some 162, .pick (.tmp 157) (.tmp 161) (.const (.bool false)), none⟩,
   ⟨some 12, .assign (.tmp 162), none⟩]
def c4_24 : SC := .seq (.reg r4_23 [12]) .ret
def c4_25 : SC := .seq (.reg r4_22 [0, 5, 8, 12, 13, 19, 20, 22, 23]) c4_24
def c4_26 : SC := .seq (.reg r4_21 [0, 5, 7, 8, 12, 13, 19, 20]) c4_25
def c4_27 : SC := .seq c4_20 c4_26
def c4_28 : SC := .seq c4_15 c4_27
def c4_29 : SC := .seq (.reg r4_10 [0, 3, 5, 7, 8, 12, 13, 14, 15, 16, 17, 18]) c4_28
def c4_30 : SC := .seq (.reg r4_9 [0, 3, 5, 7, 8, 12, 13, 14, 15, 16, 17]) c4_29
def c4_31 : SC := .seq (.reg r4_8 [0, 3, 5, 7, 8, 12, 13, 14, 15]) c4_30
def c4_32 : SC := .seq (.reg r4_7 [0, 3, 5, 7, 8, 12, 13]) c4_31
def c4_33 : SC := .seq c4_6 c4_32
def c4_34 : SC := .seq (.reg r4_1 [0, 3, 4, 5, 7, 8, 12]) c4_33
def c4 : SC := c4_34
noncomputable def X4 (M : Mem) : Fx := ⟨Try.prog, T, 163, 4, [(.tmp 12)], [], [], M, none⟩
section
variable (M : Mem)
@[go_sem] theorem X4.P : (X4 M).P = Try.prog := rfl
@[go_sem] theorem X4.T : (X4 M).T = T := rfl
@[go_sem] theorem X4.N : (X4 M).N = 163 := rfl
@[go_sem] theorem X4.rs : (X4 M).rs = [(.tmp 12)] := rfl
@[go_sem] theorem X4.own : (X4 M).own = [] := rfl
@[go_sem] theorem X4.M0 : (X4 M).M0 = M := rfl
@[go_sem] theorem X4.ro : (X4 M).ro = none := rfl
end
theorem k4 : (Try.f4.name == "runtime.NumGoroutine") = false ∧ Try.f4.ntmps = 163 ∧ Try.f4.results.toList = [(.tmp 12)] ∧ okC (X4 fun _ => none) ((Try.f4.body).getD .skip) = true ∧ c4.bare = slim (X4 fun _ => none) ((Try.f4.body).getD .skip) := ⟨by kernel_rfl, by kernel_rfl, by kernel_rfl, by kernel_rfl, by kernel_rfl⟩
theorem a4 {al : List AV} {M : Mem} {Q : AV → Mem → Prop} (hN : al.length ≤ 163) (h : SRuns (X4 M) [.code c4] (lk (num 0 al)) M [] Q) : ACalls Try.prog 4 al M Q := ACalls.of_slim c4 [] [] (tabOf_ok _) Try.func4 (by kernel_rfl : Try.f4.body = some ((Try.f4.body).getD .skip)) 163 [(.tmp 12)] k4 hN h

-- antiquary/antiquarylaw06.BoxBoundsAreReached
@[go_sem] def r5_1 : List SOp := [
   ⟨some 4, .box 24 (.tmp 1), none⟩,
   ⟨some 6, .assign (.const (.bool false)), none⟩]
@[go_sem] def r5_2 : List SOp := [
   ⟨some 13, .load 24 (.tmp 4), none⟩,
   ⟨some 14, .call { callee := (.value (.func 9)), args := #[(.tmp 13)], argTypes := #[24] }, none⟩,
   ⟨some 15, .unOp .not 4 (.tmp 14), none⟩,
   ⟨some 16, .move (.tmp 15), none⟩,
   ⟨some 17, .load 24 (.tmp 4), (some (some 16, false))⟩,
   ⟨some 18, .call { callee := (.value (.func 24)), args := #[(.tmp 17)], argTypes := #[24] }, (some (some 16, false))⟩,
   ⟨some 19, .unOp .not 4 (.tmp 18), (some (some 16, false))⟩,
   ⟨some 20, .pick (.tmp 16) (.const (.bool true)) (.tmp 19), none⟩,
   ⟨some 21, .move (.tmp 20), none⟩,
   ⟨some 22, .move (.tmp 2), (some (some 21, false))⟩,
   ⟨some 23, .call { callee := (.value (.func 25)), args := #[(.tmp 22)], argTypes := #[22] }, (some (some 21, false))⟩,
   ⟨some 24, .unOp .not 4 (.tmp 23), (some (some 21, false))⟩,
   ⟨some 25, .pick (.tmp 21) (.const (.bool true)) (.tmp 24), none⟩,
   ⟨some 26, .move (.tmp 25), none⟩,
   ⟨some 27, .move (.tmp 2), (some (some 26, false))⟩,
   ⟨some 28, .call { callee := (.builtin .len), args := #[(.tmp 27)], argTypes := #[22] }, (some (some 26, false))⟩,
   ⟨some 29, .fieldAddr 24 (.tmp 4) 0, (some (some 26, false))⟩,
   ⟨some 30, .load 22 (.tmp 29), (some (some 26, false))⟩,
   ⟨some 31, .call { callee := (.builtin .len), args := #[(.tmp 30)], argTypes := #[22] }, (some (some 26, false))⟩,
   ⟨some 32, .binOp .neq 3 (.tmp 28) (.tmp 31) 3, (some (some 26, false))⟩,
   ⟨some 33, .pick (.tmp 26) (.const (.bool true)) (.tmp 32), none⟩,
   ⟨some 34, .move (.tmp 33), none⟩,
   ⟨some 35, .move (.tmp 0), (some (some 34, false))⟩,
   ⟨some 36, .call { callee := (.value (.func 26)), args := #[(.tmp 35)], argTypes := #[3] }, (some (some 34, false))⟩,
   ⟨some 37, .unOp .not 4 (.tmp 36), (some (some 34, false))⟩,
   ⟨some 38, .pick (.tmp 34) (.const (.bool true)) (.tmp 37), none⟩]
@[go_sem] def r5_3 : List SOp := [
   ⟨some 39, .call { callee := (.value (.func 10)), args := #[], argTypes := #[] }, none⟩,
   ⟨some 6, .assign (.tmp 39), none⟩]
def c5_4 : SC := .seq (.reg r5_3 [0, 2, 4, 6]) .ret
def c5_5 : SC := .cond (.tmp 38) c5_4 .skip
def c5_6 : SC := .seq (.reg r5_2 [0, 2, 4, 6, 38]) c5_5
@[go_sem] def r5_7 : List SOp := [
   ⟨some 40, .load 24 (.tmp 4), none⟩,
   ⟨some 41, .move (.tmp 2), none⟩,
   ⟨some 42, .call { callee := (.value (.func 30)), args := #[(.tmp 40), (.tmp 41)], argTypes := #[24, 22] }, none⟩,
   ⟨some 7, .assign (.tmp 42), none⟩]
@[go_sem] def r5_8 : List SOp := [
   ⟨some 43, .load 24 (.tmp 4), none⟩,
   ⟨some 44, .move (.tmp 2), none⟩,
   ⟨some 45, .call { callee := (.value (.func 31)), args := #[(.tmp 43), (.tmp 44)], argTypes := #[24, 22] }, none⟩,
   ⟨some 8, .assign (.tmp 45), none⟩]
@[go_sem] def r5_9 : List SOp := [
   ⟨some 47, .move (.tmp 0), none⟩,
   ⟨some 48, .load 24 (.tmp 4), none⟩,
   ⟨some 49, .move (.tmp 2), none⟩,
   ⟨some 50, .call { callee := (.value (.func 11)), args := #[(.tmp 47), (.tmp 48), (.tmp 49)], argTypes := #[3, 24, 22] }, none⟩,
   ⟨some 46, .move (.tmp 50), none⟩,
   ⟨some 51, .extract (.tmp 46) 0, none⟩,
   ⟨some 52, .extract (.tmp 46) 1, none⟩,
   ⟨some 9, .assign (.tmp 51), none⟩,
   ⟨some 10, .assign (.tmp 52), none⟩]
@[go_sem] def r5_10 : List SOp := [
   ⟨some 54, .move (.tmp 0), none⟩,
   ⟨some 55, .load 24 (.tmp 4), none⟩,
   ⟨some 56, .move (.tmp 2), none⟩,
   ⟨some 57, .call { callee := (.value (.func 12)), args := #[(.tmp 54), (.tmp 55), (.tmp 56)], argTypes := #[3, 24, 22] }, none⟩,
   ⟨some 53, .move (.tmp 57), none⟩,
   ⟨some 58, .extract (.tmp 53) 0, none⟩,
   ⟨some 59, .extract (.tmp 53) 1, none⟩,
   ⟨some 11, .assign (.tmp 58), none⟩,
   ⟨some 12, .assign (.tmp 59), none⟩]
@[go_sem] def r5_11 : List SOp := [
   ⟨some 60, .call { callee := (.value (.func 10)), args := #[], argTypes := #[] }, none⟩,
   ⟨some 61, .move (.tmp 60), none⟩,
   ⟨some 62, .move (.tmp 10), (some (some 61, true))⟩,
   ⟨some 63, .binOp .eql 27 (.tmp 62) (.const (.int .i64 0)) 27, (some (some 61, true))⟩,
   ⟨some 64, .pick (.tmp 61) (.tmp 63) (.const (.bool false)), none⟩,
   ⟨some 65, .move (.tmp 64), none⟩,
   ⟨some 66, .move (.tmp 12), (some (some 65, true))⟩,
   ⟨some 67, .binOp .eql 27 (.tmp 66) (.const (.int .i64 0)) 27, (some (some 65, true))⟩,
   ⟨some 68, .pick (.tmp 65) (.tmp 67) (.const (.bool false)), none⟩,
   ⟨some 69, .move (.tmp 68), none⟩,
   ⟨some 70, .load 24 (.tmp 4), (some (some 69, true))⟩,
   ⟨some 71, .move (.tmp 7), (some (some 69, true))⟩,
   ⟨some 72, .call { callee := (.value (.func 22)), args := #[(.tmp 70), (.tmp 71)], argTypes := #[24, 22] }, (some (some 69, true))⟩,
   ⟨some 73, .pick (.tmp 69) (.tmp 72) (.const (.bool false)), none⟩,
   ⟨some 74, .move (.tmp 73), none⟩,
   ⟨some 75, .load 24 (.tmp 4), (some (some 74, true))⟩,
   ⟨some 76, .move (.tmp 8), (some (some 74, true))⟩,
   ⟨some 77, .call { callee := (.value (.func 22)), args := #[(.tmp 75), (.tmp 76)], argTypes := #[24, 22] }, (some (some 74, true))⟩,
   ⟨some 78, .pick (.tmp 74) (.tmp 77) (.const (.bool false)), none⟩,
   ⟨some 79, .move (.tmp 78), none⟩,
   ⟨some 80, .move (.tmp 0), (some (some 79, true))⟩,
   ⟨some 81, .move (.tmp 2), (some (some 79, true))⟩,
   ⟨some 82, .move (.tmp 7), (some (some 79, true))⟩,
   ⟨some 83, .call { callee := (.value (.func 28)), args := #[(.tmp 80), (.tmp 81), (.tmp 82)], argTypes := #[3, 22, 22] }, (some (some 79, true))⟩,
   ⟨some 84, .move (.tmp 9), (some (some 79, true))⟩,
   ⟨some 85, .binOp .eql 3 (.tmp 83) (.tmp 84) 3, (some (some 79, true))⟩,
   ⟨some 86, .pick (.tmp 79) (.tmp 85) (.const (.bool false)), none⟩,
   ⟨some 87, .move (.tmp 86), none⟩,
   ⟨some 88, .move (.tmp 0), (some (some 87, true))⟩,
   ⟨some 89, .move (.tmp 2), (some (some 87, true))⟩,
   ⟨some 90, .move (.tmp 8), (some (some 87, true))⟩,
   ⟨some 91, .call { callee := (.value (.func 28)), args := #[(.tmp 88), (.tmp 89), (.tmp 90)], argTypes := #[3, 22, 22] }, (some (some 87, true))⟩,
   ⟨some 92, .move (.tmp 11), (some (some 87, true))⟩,
   ⟨some 93, .binOp .eql 3 (.tmp 91) (.tmp 92) 3, (some (some 87, true))⟩,
   ⟨some 94, .pick (.tmp 87) (.tmp 93) (.const (.bool false)), none⟩,
   ⟨some 6, .assign (.tmp 94), none⟩]
def c5_12 : SC := .seq (.reg r5_11 [6]) .ret
def c5_13 : SC := .seq (.reg r5_10 [0, 2, 4, 6, 7, 8, 9, 10, 11, 12]) c5_12
def c5_14 : SC := .seq (.reg r5_9 [0, 2, 4, 6, 7, 8, 9, 10]) c5_13
def c5_15 : SC := .seq (.reg r5_8 [0, 2, 4, 6, 7, 8]) c5_14
def c5_16 : SC := .seq (.reg r5_7 [0, 2, 4, 6, 7]) c5_15
def c5_17 : SC := .seq c5_6 c5_16
def c5_18 : SC := .seq (.reg r5_1 [0, 2, 4, 6]) c5_17
def c5 : SC := c5_18
noncomputable def X5 (M : Mem) : Fx := ⟨Try.prog, T, 95, 5, [(.tmp 6)], [], [], M, none⟩
section
variable (M : Mem)
@[go_sem] theorem X5.P : (X5 M).P = Try.prog := rfl
@[go_sem] theorem X5.T : (X5 M).T = T := rfl
@[go_sem] theorem X5.N : (X5 M).N = 95 := rfl
@[go_sem] theorem X5.rs : (X5 M).rs = [(.tmp 6)] := rfl
@[go_sem] theorem X5.own : (X5 M).own = [] := rfl
@[go_sem] theorem X5.M0 : (X5 M).M0 = M := rfl
@[go_sem] theorem X5.ro : (X5 M).ro = none := rfl
end
theorem k5 : (Try.f5.name == "runtime.NumGoroutine") = false ∧ Try.f5.ntmps = 95 ∧ Try.f5.results.toList = [(.tmp 6)] ∧ okC (X5 fun _ => none) ((Try.f5.body).getD .skip) = true ∧ c5.bare = slim (X5 fun _ => none) ((Try.f5.body).getD .skip) := ⟨by kernel_rfl, by kernel_rfl, by kernel_rfl, by kernel_rfl, by kernel_rfl⟩
theorem a5 {al : List AV} {M : Mem} {Q : AV → Mem → Prop} (hN : al.length ≤ 95) (h : SRuns (X5 M) [.code c5] (lk (num 0 al)) M [] Q) : ACalls Try.prog 5 al M Q := ACalls.of_slim c5 [] [] (tabOf_ok _) Try.func5 (by kernel_rfl : Try.f5.body = some ((Try.f5.body).getD .skip)) 95 [(.tmp 6)] k5 hN h

-- antiquary/antiquarylaw06.BoxCutsInTwo
noncomputable def X6 (M : Mem) : Fx := ⟨Try.prog, T, 251, 6, [(.tmp 12)], [], [], M, none⟩
section
variable (M : Mem)
@[go_sem] theorem X6.P : (X6 M).P = Try.prog := rfl
@[go_sem] theorem X6.T : (X6 M).T = T := rfl
@[go_sem] theorem X6.N : (X6 M).N = 251 := rfl
@[go_sem] theorem X6.rs : (X6 M).rs = [(.tmp 12)] := rfl
@[go_sem] theorem X6.own : (X6 M).own = [] := rfl
@[go_sem] theorem X6.M0 : (X6 M).M0 = M := rfl
@[go_sem] theorem X6.ro : (X6 M).ro = none := rfl
end
-- antiquary/antiquarylaw06.BoxMakesAsSpecified
noncomputable def X7 (M : Mem) : Fx := ⟨Try.prog, T, 118, 7, [(.tmp 6)], [], [], M, none⟩
section
variable (M : Mem)
@[go_sem] theorem X7.P : (X7 M).P = Try.prog := rfl
@[go_sem] theorem X7.T : (X7 M).T = T := rfl
@[go_sem] theorem X7.N : (X7 M).N = 118 := rfl
@[go_sem] theorem X7.rs : (X7 M).rs = [(.tmp 6)] := rfl
@[go_sem] theorem X7.own : (X7 M).own = [] := rfl
@[go_sem] theorem X7.M0 : (X7 M).M0 = M := rfl
@[go_sem] theorem X7.ro : (X7 M).ro = none := rfl
end
-- antiquary/antiquarylaw06.BoxHasWhatItShould
@[go_sem] def r8_1 : List SOp := [
   ⟨some 5, .box 24 (.tmp 1), none⟩,
   ⟨some 6, .box 24 (.tmp 2), none⟩,
   ⟨some 8, .assign (.const (.bool false)), none⟩]
@[go_sem] def r8_2 : List SOp := [
   ⟨some 27, .move (.tmp 0), none⟩,
   ⟨some 28, .call { callee := (.value (.func 33)), args := #[(.tmp 27)], argTypes := #[59] }, none⟩,
   ⟨some 29, .unOp .not 4 (.tmp 28), none⟩,
   ⟨some 30, .move (.tmp 29), none⟩,
   ⟨some 31, .load 24 (.tmp 5), (some (some 30, false))⟩,
   ⟨some 32, .call { callee := (.value (.func 9)), args := #[(.tmp 31)], argTypes := #[24] }, (some (some 30, false))⟩,
   ⟨some 33, .unOp .not 4 (.tmp 32), (some (some 30, false))⟩,
   ⟨some 34, .pick (.tmp 30) (.const (.bool true)) (.tmp 33), none⟩,
   ⟨some 35, .move (.tmp 34), none⟩,
   ⟨some 36, .load 24 (.tmp 6), (some (some 35, false))⟩,
   ⟨some 37, .call { callee := (.value (.func 9)), args := #[(.tmp 36)], argTypes := #[24] }, (some (some 35, false))⟩,
   ⟨some 38, .unOp .not 4 (.tmp 37), (some (some 35, false))⟩,
   ⟨some 39, .pick (.tmp 35) (.const (.bool true)) (.tmp 38), none⟩]
@[go_sem] def r8_3 : List SOp := [
   ⟨some 40, .call { callee := (.value (.func 10)), args := #[], argTypes := #[] }, none⟩,
   ⟨some 8, .assign (.tmp 40), none⟩]
def c8_4 : SC := .seq (.reg r8_3 [0, 3, 5, 6, 8]) .ret
def c8_5 : SC := .cond (.tmp 39) c8_4 .skip
def c8_6 : SC := .seq (.reg r8_2 [0, 3, 5, 6, 8, 39]) c8_5
@[go_sem] def r8_7 : List SOp := [
   ⟨some 42, .move (.tmp 0), none⟩,
   ⟨some 43, .call { callee := (.value (.func 34)), args := #[(.tmp 42)], argTypes := #[59] }, none⟩,
   ⟨some 41, .move (.tmp 43), none⟩,
   ⟨some 44, .extract (.tmp 41) 0, none⟩,
   ⟨some 45, .extract (.tmp 41) 1, none⟩,
   ⟨some 9, .alloc 24, none⟩,
   ⟨none, .store 24 (.tmp 9) (.tmp 44), none⟩,
   ⟨some 10, .assign (.tmp 45), none⟩]
@[go_sem] def r8_8 : List SOp := [
   ⟨some 46, .move (.tmp 10), none⟩,
   ⟨some 47, .binOp .eql 27 (.tmp 46) (.const (.int .i64 0)) 27, none⟩]
@[go_sem] def r8_9 : List SOp := [
   ⟨some 11, .assign (.const (.int .i64 0)), none⟩]
@[go_sem] def r8_10 : List SOp := [
   ⟨some 48, .move (.tmp 11), none⟩,
   ⟨some 49, .move (.tmp 0), none⟩,
   ⟨some 50, .call { callee := (.builtin .len), args := #[(.tmp 49)], argTypes := #[59] }, none⟩,
   ⟨some 51, .binOp .lss 3 (.tmp 48) (.tmp 50) 3, none⟩]
def c8_11 : SC := .cond (.tmp 51) .skip (.exit 0)
def c8_12 : SC := .seq (.reg r8_10 [0, 3, 5, 6, 8, 9, 11, 51]) c8_11
@[go_sem] def r8_13 : List (SOp × List Nat) := [
   (⟨some 54, .load 24 (.tmp 9), none⟩, [1, 2, 3, 4]),
   (⟨some 55, .move (.tmp 0), none⟩, [0, 2]),
   (⟨some 56, .move (.tmp 11), none⟩, [0, 1]),
   (⟨some 57, .indexAddr 59 (.tmp 55) (.tmp 56), none⟩, [0]),
   (⟨some 58, .load 22 (.tmp 57), none⟩, [0]),
   (⟨some 59, .call { callee := (.value (.func 22)), args := #[(.tmp 54), (.tmp 58)], argTypes := #[24, 22] }, none⟩, []),
   (⟨some 60, .unOp .not 4 (.tmp 59), none⟩, [])]
@[go_sem] def r8_14 : List SOp := [
   ⟨some 8, .assign (.const (.bool false)), none⟩]
def c8_15 : SC := .seq (.reg r8_14 [0, 3, 5, 6, 8, 9, 11]) .ret
def c8_16 : SC := .cond (.tmp 60) c8_15 .skip
def c8_17 : SC := .seq (.draw r8_13 [0, 3, 5, 6, 8, 9, 11, 60]) c8_16
@[go_sem] def r8_18 : List SOp := [
   ⟨some 52, .move (.tmp 11), none⟩,
   ⟨some 53, .binOp .add 3 (.tmp 52) (.const (.int .i64 1)) 3, none⟩,
   ⟨some 11, .assign (.tmp 53), none⟩]
def c8_19 : SC := .seq (.block 1 c8_17) (.reg r8_18 [0, 3, 5, 6, 8, 9, 11])
def c8_20 : SC := .seq c8_12 c8_19
def c8_21 : SC := .seq (.reg r8_9 [0, 3, 5, 6, 8, 9, 11]) (.block 0 (.loop c8_20))
@[go_sem] def r8_22 : List SOp := [
   ⟨some 12, .assign (.const (.int .i64 0)), none⟩]
@[go_sem] def r8_23 : List SOp := [
   ⟨some 61, .move (.tmp 12), none⟩,
   ⟨some 62, .fieldAddr 24 (.tmp 9) 0, none⟩,
   ⟨some 63, .load 22 (.tmp 62), none⟩,
   ⟨some 64, .call { callee := (.builtin .len), args := #[(.tmp 63)], argTypes := #[22] }, none⟩,
   ⟨some 65, .binOp .lss 3 (.tmp 61) (.tmp 64) 3, none⟩]
def c8_24 : SC := .cond (.tmp 65) .skip (.exit 2)
def c8_25 : SC := .seq (.reg r8_23 [0, 3, 5, 6, 8, 9, 12, 65]) c8_24
@[go_sem] def r8_26 : List SOp := [
   ⟨some 13, .assign (.const (.bool false)), none⟩]
@[go_sem] def r8_27 : List SOp := [
   ⟨some 14, .assign (.const (.bool false)), none⟩]
@[go_sem] def r8_28 : List SOp := [
   ⟨some 15, .assign (.const (.int .i64 0)), none⟩]
@[go_sem] def r8_29 : List SOp := [
   ⟨some 68, .move (.tmp 15), none⟩,
   ⟨some 69, .move (.tmp 0), none⟩,
   ⟨some 70, .call { callee := (.builtin .len), args := #[(.tmp 69)], argTypes := #[59] }, none⟩,
   ⟨some 71, .binOp .lss 3 (.tmp 68) (.tmp 70) 3, none⟩]
def c8_30 : SC := .cond (.tmp 71) .skip (.exit 4)
def c8_31 : SC := .seq (.reg r8_29 [0, 3, 5, 6, 8, 9, 12, 13, 14, 15, 71]) c8_30
@[go_sem] def r8_32 : List (SOp × List Nat) := [
   (⟨some 74, .move (.tmp 13), none⟩, []),
   (⟨some 75, .move (.tmp 74), none⟩, []),
   (⟨some 76, .move (.tmp 0), (some (some 75, false))⟩, [3, 6, 9, 10, 11, 12, 13]),
   (⟨some 77, .move (.tmp 15), (some (some 75, false))⟩, [2, 6, 9, 10, 11, 12, 13]),
   (⟨some 78, .indexAddr 59 (.tmp 76) (.tmp 77), (some (some 75, false))⟩, [6, 9, 10, 11, 12, 13]),
   (⟨some 79, .load 22 (.tmp 78), (some (some 75, false))⟩, [6, 9, 10, 11, 12, 13]),
   (⟨some 80, .move (.tmp 12), (some (some 75, false))⟩, [2, 3, 4, 5, 9, 10, 11, 12, 13]),
   (⟨some 81, .indexAddr 22 (.tmp 79) (.tmp 80), (some (some 75, false))⟩, [9, 10, 11, 12, 13]),
   (⟨some 82, .load 3 (.tmp 81), (some (some 75, false))⟩, [9, 10, 11, 12, 13]),
   (⟨some 83, .fieldAddr 24 (.tmp 9) 0, (some (some 75, false))⟩, [2, 3, 4, 5, 6, 7, 8, 11]),
   (⟨some 84, .load 22 (.tmp 83), (some (some 75, false))⟩, [2, 3, 4, 5, 6, 7, 8, 11]),
   (⟨some 85, .move (.tmp 12), (some (some 75, false))⟩, [2, 3, 4, 5, 6, 7, 8, 9, 10]),
   (⟨some 86, .indexAddr 22 (.tmp 84) (.tmp 85), (some (some 75, false))⟩, [2, 3, 4, 5, 6, 7, 8]),
   (⟨some 87, .load 3 (.tmp 86), (some (some 75, false))⟩, [2, 3, 4, 5, 6, 7, 8]),
   (⟨some 88, .binOp .eql 3 (.tmp 82) (.tmp 87) 3, (some (some 75, false))⟩, []),
   (⟨some 89, .pick (.tmp 75) (.const (.bool true)) (.tmp 88), none⟩, []),
   (⟨some 13, .assign (.tmp 89), none⟩, [])]
@[go_sem] def r8_33 : List (SOp × List Nat) := [
   (⟨some 90, .move (.tmp 14), none⟩, []),
   (⟨some 91, .move (.tmp 90), none⟩, []),
   (⟨some 92, .move (.tmp 0), (some (some 91, false))⟩, [3, 6, 9, 10, 11, 12, 13]),
   (⟨some 93, .move (.tmp 15), (some (some 91, false))⟩, [2, 6, 9, 10, 11, 12, 13]),
   (⟨some 94, .indexAddr 59 (.tmp 92) (.tmp 93), (some (some 91, false))⟩, [6, 9, 10, 11, 12, 13]),
   (⟨some 95, .load 22 (.tmp 94), (some (some 91, false))⟩, [6, 9, 10, 11, 12, 13]),
   (⟨some 96, .move (.tmp 12), (some (some 91, false))⟩, [2, 3, 4, 5, 9, 10, 11, 12, 13]),
   (⟨some 97, .indexAddr 22 (.tmp 95) (.tmp 96), (some (some 91, false))⟩, [9, 10, 11, 12, 13]),
   (⟨some 98, .load 3 (.tmp 97), (some (some 91, false))⟩, [9, 10, 11, 12, 13]),
   (⟨some 99, .fieldAddr 24 (.tmp 9) 1, (some (some 91, false))⟩, [2, 3, 4, 5, 6, 7, 8, 11]),
   (⟨some 100, .load 22 (.tmp 99), (some (some 91, false))⟩, [2, 3, 4, 5, 6, 7, 8, 11]),
   (⟨some 101, .move (.tmp 12), (some (some 91, false))⟩, [2, 3, 4, 5, 6, 7, 8, 9, 10]),
   (⟨some 102, .indexAddr 22 (.tmp 100) (.tmp 101), (some (some 91, false))⟩, [2, 3, 4, 5, 6, 7, 8]),
   (⟨some 103, .load 3 (.tmp 102), (some (some 91, false))⟩, [2, 3, 4, 5, 6, 7, 8]),
   (⟨some 104, .binOp .eql 3 (.tmp 98) (.tmp 103) 3, (some (some 91, false))⟩, []),
   (⟨some 105, .pick (.tmp 91) (.const (.bool true)) (.tmp 104), none⟩, []),
   (⟨some 14, .assign (.tmp 105), none⟩, [])]
def c8_34 : SC := .seq (.draw r8_32 [0, 3, 5, 6, 8, 9, 12, 13, 14, 15]) (.draw r8_33 [0, 3, 5, 6, 8, 9, 12, 13, 14, 15])
@[go_sem] def r8_35 : List SOp := [
   ⟨some 72, .move (.tmp 15), none⟩,
   ⟨some 73, .binOp .add 3 (.tmp 72) (.const (.int .i64 1)) 3, none⟩,
   ⟨some 15, .assign (.tmp 73), none⟩]
def c8_36 : SC := .seq (.block 5 c8_34) (.reg r8_35 [0, 3, 5, 6, 8, 9, 12, 13, 14, 15])
def c8_37 : SC := .seq c8_31 c8_36
def c8_38 : SC := .seq (.reg r8_28 [0, 3, 5, 6, 8, 9, 12, 13, 14, 15]) (.block 4 (.loop c8_37))
@[go_sem] def r8_39 : List SOp := [
   ⟨some 106, .move (.tmp 13), none⟩,
   ⟨some 107, .unOp .not 4 (.tmp 106), none⟩,
   ⟨some 108, .move (.tmp 107), none⟩,
   ⟨some 109, .move (.tmp 14), (some (some 108, false))⟩,
   ⟨some 110, .unOp .not 4 (.tmp 109), (some (some 108, false))⟩,
   ⟨some 111, .pick (.tmp 108) (.const (.bool true)) (.tmp 110), none⟩]
@[go_sem] def r8_40 : List SOp := [
   ⟨some 8, .assign (.const (.bool false)), none⟩]
def c8_41 : SC := .seq (.reg r8_40 [0, 3, 5, 6, 8, 9, 12]) .ret
def c8_42 : SC := .cond (.tmp 111) c8_41 .skip
def c8_43 : SC := .seq (.reg r8_39 [0, 3, 5, 6, 8, 9, 12, 111]) c8_42
def c8_44 : SC := .seq c8_38 c8_43
def c8_45 : SC := .seq (.reg r8_27 [0, 3, 5, 6, 8, 9, 12, 13, 14]) c8_44
def c8_46 : SC := .seq (.reg r8_26 [0, 3, 5, 6, 8, 9, 12, 13]) c8_45
@[go_sem] def r8_47 : List SOp := [
   ⟨some 66, .move (.tmp 12), none⟩,
   ⟨some 67, .binOp .add 3 (.tmp 66) (.const (.int .i64 1)) 3, none⟩,
   ⟨some 12, .assign (.tmp 67), none⟩]
def c8_48 : SC := .seq (.block 3 c8_46) (.reg r8_47 [0, 3, 5, 6, 8, 9, 12])
def c8_49 : SC := .seq c8_25 c8_48
def c8_50 : SC := .seq (.reg r8_22 [0, 3, 5, 6, 8, 9, 12]) (.block 2 (.loop c8_49))
def c8_51 : SC := .seq c8_21 c8_50
def c8_52 : SC := .cond (.tmp 47) c8_51 .skip
def c8_53 : SC := .seq (.reg r8_8 [0, 3, 5, 6, 8, 9, 47]) c8_52
@[go_sem] def r8_54 : List SOp := [
   ⟨some 112, .load 24 (.tmp 5), none⟩,
   ⟨some 113, .call { callee := (.value (.func 24)), args := #[(.tmp 112)], argTypes := #[24] }, none⟩,
   ⟨some 114, .unOp .not 4 (.tmp 113), none⟩,
   ⟨some 115, .move (.tmp 114), none⟩,
   ⟨some 116, .load 24 (.tmp 6), (some (some 115, false))⟩,
   ⟨some 117, .call { callee := (.value (.func 24)), args := #[(.tmp 116)], argTypes := #[24] }, (some (some 115, false))⟩,
   ⟨some 118, .unOp .not 4 (.tmp 117), (some (some 115, false))⟩,
   ⟨some 119, .pick (.tmp 115) (.const (.bool true)) (.tmp 118), none⟩,
   ⟨some 120, .move (.tmp 119), none⟩,
   ⟨some 121, .fieldAddr 24 (.tmp 5) 0, (some (some 120, false))⟩,
   ⟨some 122, .load 22 (.tmp 121), (some (some 120, false))⟩,
   ⟨some 123, .call { callee := (.builtin .len), args := #[(.tmp 122)], argTypes := #[22] }, (some (some 120, false))⟩,
   ⟨some 124, .fieldAddr 24 (.tmp 6) 0, (some (some 120, false))⟩,
   ⟨some 125, .load 22 (.tmp 124), (some (some 120, false))⟩,
   ⟨some 126, .call { callee := (.builtin .len), args := #[(.tmp 125)], argTypes := #[22] }, (some (some 120, false))⟩,
   ⟨some 127, .binOp .neq 3 (.tmp 123) (.tmp 126) 3, (some (some 120, false))⟩,
   ⟨some 128, .pick (.tmp 120) (.const (.bool true)) (.tmp 127), none⟩]
@[go_sem] def r8_55 : List SOp := [
   ⟨some 129, .call { callee := (.value (.func 10)), args := #[], argTypes := #[] }, none⟩,
   ⟨some 8, .assign (.tmp 129), none⟩]
def c8_56 : SC := .seq (.reg r8_55 [3, 5, 6, 8]) .ret
def c8_57 : SC := .cond (.tmp 128) c8_56 .skip
def c8_58 : SC := .seq (.reg r8_54 [3, 5, 6, 8, 128]) c8_57
@[go_sem] def r8_59 : List SOp := [
   ⟨some 131, .load 24 (.tmp 5), none⟩,
   ⟨some 132, .load 24 (.tmp 6), none⟩,
   ⟨some 133, .call { callee := (.value (.func 35)), args := #[(.tmp 131), (.tmp 132)], argTypes := #[24, 24] }, none⟩,
   ⟨some 130, .move (.tmp 133), none⟩,
   ⟨some 134, .extract (.tmp 130) 0, none⟩,
   ⟨some 135, .extract (.tmp 130) 1, none⟩,
   ⟨some 16, .alloc 24, none⟩,
   ⟨none, .store 24 (.tmp 16) (.tmp 134), none⟩,
   ⟨some 17, .assign (.tmp 135), none⟩]
@[go_sem] def r8_60 : List SOp := [
   ⟨some 137, .load 24 (.tmp 6), none⟩,
   ⟨some 138, .load 24 (.tmp 5), none⟩,
   ⟨some 139, .call { callee := (.value (.func 35)), args := #[(.tmp 137), (.tmp 138)], argTypes := #[24, 24] }, none⟩,
   ⟨some 136, .move (.tmp 139), none⟩,
   ⟨some 140, .extract (.tmp 136) 0, none⟩,
   ⟨some 141, .extract (.tmp 136) 1, none⟩,
   ⟨some 18, .alloc 24, none⟩,
   ⟨none, .store 24 (.tmp 18) (.tmp 140), none⟩,
   ⟨some 19, .assign (.tmp 141), none⟩]
@[go_sem] def r8_61 : List SOp := [
   ⟨some 143, .load 24 (.tmp 5), none⟩,
   ⟨some 144, .load 24 (.tmp 6), none⟩,
   ⟨some 145, .call { callee := (.value (.func 29)), args := #[(.tmp 143), (.tmp 144)], argTypes := #[24, 24] }, none⟩,
   ⟨some 142, .move (.tmp 145), none⟩,
   ⟨some 146, .extract (.tmp 142) 0, none⟩,
   ⟨some 147, .extract (.tmp 142) 1, none⟩,
   ⟨some 148, .extract (.tmp 142) 2, none⟩,
   ⟨some 20, .alloc 24, none⟩,
   ⟨none, .store 24 (.tmp 20) (.tmp 146), none⟩,
   ⟨some 21, .assign (.tmp 147), none⟩,
   ⟨some 22, .assign (.tmp 148), none⟩]
@[go_sem] def r8_62 : List SOp := [
   ⟨some 150, .load 24 (.tmp 6), none⟩,
   ⟨some 151, .load 24 (.tmp 5), none⟩,
   ⟨some 152, .call { callee := (.value (.func 29)), args := #[(.tmp 150), (.tmp 151)], argTypes := #[24, 24] }, none⟩,
   ⟨some 149, .move (.tmp 152), none⟩,
   ⟨some 153, .extract (.tmp 149) 0, none⟩,
   ⟨some 154, .extract (.tmp 149) 1, none⟩,
   ⟨some 155, .extract (.tmp 149) 2, none⟩,
   ⟨some 23, .alloc 24, none⟩,
   ⟨none, .store 24 (.tmp 23) (.tmp 153), none⟩,
   ⟨some 24, .assign (.tmp 154), none⟩,
   ⟨some 25, .assign (.tmp 155), none⟩]
@[go_sem] def r8_63 : List SOp := [
   ⟨some 156, .move (.tmp 17), none⟩,
   ⟨some 157, .binOp .neq 27 (.tmp 156) (.const (.int .i64 0)) 27, none⟩,
   ⟨some 158, .move (.tmp 157), none⟩,
   ⟨some 159, .move (.tmp 19), (some (some 158, false))⟩,
   ⟨some 160, .binOp .neq 27 (.tmp 159) (.const (.int .i64 0)) 27, (some (some 158, false))⟩,
   ⟨some 161, .pick (.tmp 158) (.const (.bool true)) (.tmp 160), none⟩,
   ⟨some 162, .move (.tmp 161), none⟩,
   ⟨some 163, .move (.tmp 22), (some (some 162, false))⟩,
   ⟨some 164, .binOp .neq 27 (.tmp 163) (.const (.int .i64 0)) 27, (some (some 162, false))⟩,
   ⟨some 165, .pick (.tmp 162) (.const (.bool true)) (.tmp 164), none⟩,
   ⟨some 166, .move (.tmp 165), none⟩,
   ⟨some 167, .move (.tmp 25), (some (some 166, false))⟩,
   ⟨some 168, .binOp .neq 27 (.tmp 167) (.const (.int .i64 0)) 27, (some (some 166, false))⟩,
   ⟨some 169, .pick (.tmp 166) (.const (.bool true)) (.tmp 168), none⟩,
   ⟨some 170, .move (.tmp 169), none⟩,
   ⟨some 171, .load 24 (.tmp 16), (some (some 170, false))⟩,
   ⟨some 172, .load 24 (.tmp 18), (some (some 170, false))⟩,
   ⟨some 173, .call { callee := (.value (.func 21)), args := #[(.tmp 171), (.tmp 172)], argTypes := #[24, 24] }, (some (some 170, false))⟩,
   ⟨some 174, .unOp .not 4 (.tmp 173), (some (some 170, false))⟩,
   ⟨some 175, .pick (.tmp 170) (.const (.bool true)) (.tmp 174), none⟩,
   ⟨some 176, .move (.tmp 175), none⟩,
   ⟨some 177, .load 24 (.tmp 20), (some (some 176, false))⟩,
   ⟨some 178, .load 24 (.tmp 23), (some (some 176, false))⟩,
   ⟨some 179, .call { callee := (.value (.func 21)), args := #[(.tmp 177), (.tmp 178)], argTypes := #[24, 24] }, (some (some 176, false))⟩,
   ⟨some 180, .unOp .not 4 (.tmp 179), (some (some 176, false))⟩,
   ⟨some 181, .pick (.tmp 176) (.const (.bool true)) (.tmp 180), none⟩,
   ⟨some 182, .move (.tmp 181), none⟩,
   ⟨some 183, .move (.tmp 21), (some (some 182, false))⟩,
   ⟨some 184, .move (.tmp 24), (some (some 182, false))⟩,
   ⟨some 185, .binOp .neq 4 (.tmp 183) (.tmp 184) 4, (some (some 182, false))⟩,
   ⟨some 186, .pick (.tmp 182) (.const (.bool true)) (.tmp 185), none⟩]
@[go_sem] def r8_64 : List SOp := [
   ⟨some 8, .assign (.const (.bool false)), none⟩]
def c8_65 : SC := .seq (.reg r8_64 [3, 5, 6, 8, 16, 20, 21]) .ret
def c8_66 : SC := .cond (.tmp 186) c8_65 .skip
def c8_67 : SC := .seq (.reg r8_63 [3, 5, 6, 8, 16, 20, 21, 186]) c8_66
@[go_sem] def r8_68 : List SOp := [
   ⟨some 187, .load 24 (.tmp 5), none⟩,
   ⟨some 188, .move (.tmp 3), none⟩,
   ⟨some 189, .call { callee := (.value (.func 27)), args := #[(.tmp 187), (.tmp 188)], argTypes := #[24, 48] }, none⟩,
   ⟨some 26, .assign (.tmp 189), none⟩]
@[go_sem] def r8_69 : List SOp := [
   ⟨some 190, .load 24 (.tmp 6), none⟩,
   ⟨some 191, .move (.tmp 26), none⟩,
   ⟨some 192, .call { callee := (.value (.func 22)), args := #[(.tmp 190), (.tmp 191)], argTypes := #[24, 22] }, none⟩,
   ⟨some 193, .move (.tmp 21), none⟩,
   ⟨some 194, .move (.tmp 193), none⟩,
   ⟨some 195, .load 24 (.tmp 20), (some (some 194, true))⟩,
   ⟨some 196, .move (.tmp 26), (some (some 194, true))⟩,
   ⟨some 197, .call { callee := (.value (.func 22)), args := #[(.tmp 195), (.tmp 196)], argTypes := #[24, 22] }, (some (some 194, true))⟩,
   ⟨some 198, .pick (.tmp 194) (.tmp 197) (.const (.bool false)), none⟩,
   ⟨some 199, .binOp .neq 4 (.tmp 192) (.tmp 198) 4, none⟩,
   ⟨some 200, .move (.tmp 199), none⟩,
   ⟨some 201, .load 24 (.tmp 16), (some (some 200, false))⟩,
   ⟨some 202, .move (.tmp 26), (some (some 200, false))⟩,
   ⟨some 203, .call { callee := (.value (.func 22)), args := #[(.tmp 201), (.tmp 202)], argTypes := #[24, 22] }, (some (some 200, false))⟩,
   ⟨some 204, .unOp .not 4 (.tmp 203), (some (some 200, false))⟩,
   ⟨some 205, .pick (.tmp 200) (.const (.bool true)) (.tmp 204), none⟩]
@[go_sem] def r8_70 : List SOp := [
   ⟨some 8, .assign (.const (.bool false)), none⟩]
def c8_71 : SC := .seq (.reg r8_70 [5, 6, 8, 16, 20, 21]) .ret
def c8_72 : SC := .cond (.tmp 205) c8_71 .skip
def c8_73 : SC := .seq (.reg r8_69 [5, 6, 8, 16, 20, 21, 205]) c8_72
@[go_sem] def r8_74 : List SOp := [
   ⟨some 206, .move (.tmp 21), none⟩,
   ⟨some 207, .move (.tmp 206), none⟩,
   ⟨some 208, .load 24 (.tmp 20), (some (some 207, true))⟩,
   ⟨some 209, .load 24 (.tmp 5), (some (some 207, true))⟩,
   ⟨some 210, .call { callee := (.value (.func 32)), args := #[(.tmp 208), (.tmp 209)], argTypes := #[24, 24] }, (some (some 207, true))⟩,
   ⟨some 211, .move (.tmp 210), (some (some 207, true))⟩,
   ⟨some 212, .load 24 (.tmp 20), (some (some 211, true))⟩,
   ⟨some 213, .load 24 (.tmp 6), (some (some 211, true))⟩,
   ⟨some 214, .call { callee := (.value (.func 32)), args := #[(.tmp 212), (.tmp 213)], argTypes := #[24, 24] }, (some (some 211, true))⟩,
   ⟨some 215, .pick (.tmp 211) (.tmp 214) (.const (.bool false)), (some (some 207, true))⟩,
   ⟨some 216, .unOp .not 4 (.tmp 215), (some (some 207, true))⟩,
   ⟨some 217, .pick (.tmp 207) (.tmp 216) (.const (.bool false)), none⟩]
@[go_sem] def r8_75 : List SOp := [
   ⟨some 8, .assign (.const (.bool false)), none⟩]
def c8_76 : SC := .seq (.reg r8_75 [5, 6, 8, 16]) .ret
def c8_77 : SC := .cond (.tmp 217) c8_76 .skip
def c8_78 : SC := .seq (.reg r8_74 [5, 6, 8, 16, 217]) c8_77
@[go_sem] def r8_79 : List SOp := [
   ⟨some 218, .call { callee := (.value (.func 10)), args := #[], argTypes := #[] }, none⟩,
   ⟨some 219, .move (.tmp 218), none⟩,
   ⟨some 220, .load 24 (.tmp 5), (some (some 219, true))⟩,
   ⟨some 221, .load 24 (.tmp 16), (some (some 219, true))⟩,
   ⟨some 222, .call { callee := (.value (.func 32)), args := #[(.tmp 220), (.tmp 221)], argTypes := #[24, 24] }, (some (some 219, true))⟩,
   ⟨some 223, .pick (.tmp 219) (.tmp 222) (.const (.bool false)), none⟩,
   ⟨some 224, .move (.tmp 223), none⟩,
   ⟨some 225, .load 24 (.tmp 6), (some (some 224, true))⟩,
   ⟨some 226, .load 24 (.tmp 16), (some (some 224, true))⟩,
   ⟨some 227, .call { callee := (.value (.func 32)), args := #[(.tmp 225), (.tmp 226)], argTypes := #[24, 24] }, (some (some 224, true))⟩,
   ⟨some 228, .pick (.tmp 224) (.tmp 227) (.const (.bool false)), none⟩,
   ⟨some 8, .assign (.tmp 228), none⟩]
def c8_80 : SC := .seq (.reg r8_79 [8]) .ret
def c8_81 : SC := .seq c8_78 c8_80
def c8_82 : SC := .seq c8_73 c8_81
def c8_83 : SC := .seq (.reg r8_68 [5, 6, 8, 16, 20, 21, 26]) c8_82
def c8_84 : SC := .seq c8_67 c8_83
def c8_85 : SC := .seq (.reg r8_62 [3, 5, 6, 8, 16, 17, 18, 19, 20, 21, 22, 23, 24, 25]) c8_84
def c8_86 : SC := .seq (.reg r8_61 [3, 5, 6, 8, 16, 17, 18, 19, 20, 21, 22]) c8_85
def c8_87 : SC := .seq (.reg r8_60 [3, 5, 6, 8, 16, 17, 18, 19]) c8_86
def c8_88 : SC := .seq (.reg r8_59 [3, 5, 6, 8, 16, 17]) c8_87
def c8_89 : SC := .seq c8_58 c8_88
def c8_90 : SC := .seq c8_53 c8_89
def c8_91 : SC := .seq (.reg r8_7 [0, 3, 5, 6, 8, 9, 10]) c8_90
def c8_92 : SC := .seq c8_6 c8_91
def c8_93 : SC := .seq (.reg r8_1 [0, 3, 5, 6, 8]) c8_92
def c8 : SC := c8_93
noncomputable def X8 (M : Mem) : Fx := ⟨Try.prog, T, 229, 8, [(.tmp 8)], [], [], M, none⟩
section
variable (M : Mem)
@[go_sem] theorem X8.P : (X8 M).P = Try.prog := rfl
@[go_sem] theorem X8.T : (X8 M).T = T := rfl
@[go_sem] theorem X8.N : (X8 M).N = 229 := rfl
@[go_sem] theorem X8.rs : (X8 M).rs = [(.tmp 8)] := rfl
@[go_sem] theorem X8.own : (X8 M).own = [] := rfl
@[go_sem] theorem X8.M0 : (X8 M).M0 = M := rfl
@[go_sem] theorem X8.ro : (X8 M).ro = none := rfl
end
theorem k8 : (Try.f8.name == "runtime.NumGoroutine") = false ∧ Try.f8.ntmps = 229 ∧ Try.f8.results.toList = [(.tmp 8)] ∧ okC (X8 fun _ => none) ((Try.f8.body).getD .skip) = true ∧ c8.bare = slim (X8 fun _ => none) ((Try.f8.body).getD .skip) := ⟨by kernel_rfl, by kernel_rfl, by kernel_rfl, by kernel_rfl, by kernel_rfl⟩
theorem a8 {al : List AV} {M : Mem} {Q : AV → Mem → Prop} (hN : al.length ≤ 229) (h : SRuns (X8 M) [.code c8] (lk (num 0 al)) M [] Q) : ACalls Try.prog 8 al M Q := ACalls.of_slim c8 [] [] (tabOf_ok _) Try.func8 (by kernel_rfl : Try.f8.body = some ((Try.f8.body).getD .skip)) 229 [(.tmp 8)] k8 hN h

-- antiquary/antiquaryref06.Few
@[go_sem] def r9_1 : List SOp := [
   ⟨some 1, .box 24 (.tmp 0), none⟩,
   ⟨some 2, .assign (.const (.bool false)), none⟩]
@[go_sem] def r9_2 : List SOp := [
   ⟨some 3, .fieldAddr 24 (.tmp 1) 0, none⟩,
   ⟨some 4, .load 22 (.tmp 3), none⟩,
   ⟨some 5, .call { callee := (.builtin .len), args := #[(.tmp 4)], argTypes := #[22] }, none⟩,
   ⟨some 6, .binOp .leq 3 (.tmp 5) (.const (.int .i64 40)) 3, none⟩,
   ⟨some 7, .move (.tmp 6), none⟩,
   ⟨some 8, .fieldAddr 24 (.tmp 1) 1, (some (some 7, true))⟩,
   ⟨some 9, .load 22 (.tmp 8), (some (some 7, true))⟩,
   ⟨some 10, .call { callee := (.builtin .len), args := #[(.tmp 9)], argTypes := #[22] }, (some (some 7, true))⟩,
   ⟨some 11, .binOp .leq 3 (.tmp 10) (.const (.int .i64 40)) 3, (some (some 7, true))⟩,
   ⟨some 12, .pick (.tmp 7) (.tmp 11) (.const (.bool false)), none⟩,
   ⟨some 2, .assign (.tmp 12), none⟩]
def c9_3 : SC := .seq (.reg r9_2 [2]) .ret
def c9_4 : SC := .seq (.reg r9_1 [1, 2]) c9_3
def c9 : SC := c9_4
noncomputable def X9 (M : Mem) : Fx := ⟨Try.prog, T, 13, 9, [(.tmp 2)], [], [], M, none⟩
section
variable (M : Mem)
@[go_sem] theorem X9.P : (X9 M).P = Try.prog := rfl
@[go_sem] theorem X9.T : (X9 M).T = T := rfl
@[go_sem] theorem X9.N : (X9 M).N = 13 := rfl
@[go_sem] theorem X9.rs : (X9 M).rs = [(.tmp 2)] := rfl
@[go_sem] theorem X9.own : (X9 M).own = [] := rfl
@[go_sem] theorem X9.M0 : (X9 M).M0 = M := rfl
@[go_sem] theorem X9.ro : (X9 M).ro = none := rfl
end
theorem k9 : (Try.f9.name == "runtime.NumGoroutine") = false ∧ Try.f9.ntmps = 13 ∧ Try.f9.results.toList = [(.tmp 2)] ∧ okC (X9 fun _ => none) ((Try.f9.body).getD .skip) = true ∧ c9.bare = slim (X9 fun _ => none) ((Try.f9.body).getD .skip) := ⟨by kernel_rfl, by kernel_rfl, by kernel_rfl, by kernel_rfl, by kernel_rfl⟩
theorem a9 {al : List AV} {M : Mem} {Q : AV → Mem → Prop} (hN : al.length ≤ 13) (h : SRuns (X9 M) [.code c9] (lk (num 0 al)) M [] Q) : ACalls Try.prog 9 al M Q := ACalls.of_slim c9 [] [] (tabOf_ok _) Try.func9 (by kernel_rfl : Try.f9.body = some ((Try.f9.body).getD .skip)) 13 [(.tmp 2)] k9 hN h

-- antiquary/antiquarylaw06.sanity
@[go_sem] def r10_1 : List SOp := [
   ⟨some 0, .assign (.const (.bool false)), none⟩]
@[go_sem] def r10_2 : List SOp := [
   ⟨some 23, .buildSlice 22 2 #[(0, (.const (.int .i64 4))), (1, (.const (.int .i64 0)))], none⟩,
   ⟨some 24, .buildSlice 22 2 #[(0, (.const (.int .i64 0))), (1, (.const (.int .i64 2)))], none⟩,
   ⟨some 25, .buildSlice 59 2 #[(0, (.tmp 23)), (1, (.tmp 24))], none⟩,
   ⟨some 26, .call { callee := (.value (.func 34)), args := #[(.tmp 25)], argTypes := #[59] }, none⟩,
   ⟨some 22, .move (.tmp 26), none⟩,
   ⟨some 27, .extract (.tmp 22) 0, none⟩,
   ⟨some 28, .extract (.tmp 22) 1, none⟩,
   ⟨some 1, .alloc 24, none⟩,
   ⟨none, .store 24 (.tmp 1) (.tmp 27), none⟩,
   ⟨some 2, .assign (.tmp 28), none⟩]
@[go_sem] def r10_3 : List SOp := [
   ⟨some 29, .buildSlice 22 2 #[(0, (.const (.int .i64 7))), (1, (.const (.int .i64 (-1))))], none⟩,
   ⟨some 3, .assign (.tmp 29), none⟩]
@[go_sem] def r10_4 : List SOp := [
   ⟨some 30, .move (.tmp 2), none⟩,
   ⟨some 31, .binOp .neq 27 (.tmp 30) (.const (.int .i64 0)) 27, none⟩,
   ⟨some 32, .move (.tmp 31), none⟩,
   ⟨some 33, .load 24 (.tmp 1), (some (some 32, false))⟩,
   ⟨some 34, .buildSlice 22 2 #[(0, (.const (.int .i64 0))), (1, (.const (.int .i64 0)))], (some (some 32, false))⟩,
   ⟨some 35, .buildSlice 22 2 #[(0, (.const (.int .i64 4))), (1, (.const (.int .i64 2)))], (some (some 32, false))⟩,
   ⟨some 36, .build 24 #[(0, (.tmp 34)), (1, (.tmp 35))], (some (some 32, false))⟩,
   ⟨some 37, .call { callee := (.value (.func 21)), args := #[(.tmp 33), (.tmp 36)], argTypes := #[24, 24] }, (some (some 32, false))⟩,
   ⟨some 38, .unOp .not 4 (.tmp 37), (some (some 32, false))⟩,
   ⟨some 39, .pick (.tmp 32) (.const (.bool true)) (.tmp 38), none⟩,
   ⟨some 40, .move (.tmp 39), none⟩,
   ⟨some 41, .load 24 (.tmp 1), (some (some 40, false))⟩,
   ⟨some 42, .buildSlice 22 2 #[(0, (.const (.int .i64 4))), (1, (.const (.int .i64 2)))], (some (some 40, false))⟩,
   ⟨some 43, .call { callee := (.value (.func 22)), args := #[(.tmp 41), (.tmp 42)], argTypes := #[24, 22] }, (some (some 40, false))⟩,
   ⟨some 44, .unOp .not 4 (.tmp 43), (some (some 40, false))⟩,
   ⟨some 45, .pick (.tmp 40) (.const (.bool true)) (.tmp 44), none⟩,
   ⟨some 46, .move (.tmp 45), none⟩,
   ⟨some 47, .load 24 (.tmp 1), (some (some 46, false))⟩,
   ⟨some 48, .move (.tmp 3), (some (some 46, false))⟩,
   ⟨some 49, .call { callee := (.value (.func 22)), args := #[(.tmp 47), (.tmp 48)], argTypes := #[24, 22] }, (some (some 46, false))⟩,
   ⟨some 50, .pick (.tmp 46) (.const (.bool true)) (.tmp 49), none⟩]
@[go_sem] def r10_5 : List SOp := [
   ⟨some 0, .assign (.const (.bool false)), none⟩]
def c10_6 : SC := .seq (.reg r10_5 [0, 1, 3]) .ret
def c10_7 : SC := .cond (.tmp 50) c10_6 .skip
def c10_8 : SC := .seq (.reg r10_4 [0, 1, 3, 50]) c10_7
@[go_sem] def r10_9 : List SOp := [
   ⟨some 51, .buildSlice 22 6 #[(0, (.const (.int .i64 4))), (1, (.const (.int .i64 10))), (2, (.const (.int .i64 3))), (3, (.const (.int .i64 10))), (4, (.const (.int .i64 58))), (5, (.const (.int .i64 7)))], none⟩,
   ⟨some 4, .assign (.tmp 51), none⟩]
@[go_sem] def r10_10 : List SOp := [
   ⟨some 5, .assign (.const (.int .i64 0)), none⟩]
@[go_sem] def r10_11 : List SOp := [
   ⟨some 52, .move (.tmp 5), none⟩,
   ⟨some 53, .binOp .lss 3 (.tmp 52) (.const (.int .i64 3)) 3, none⟩]
def c10_12 : SC := .cond (.tmp 53) .skip (.exit 0)
def c10_13 : SC := .seq (.reg r10_11 [0, 1, 3, 4, 5, 53]) c10_12
@[go_sem] def r10_14 : List SOp := [
   ⟨some 57, .move (.tmp 5), none⟩,
   ⟨some 58, .binOp .add 3 (.tmp 57) (.const (.int .i64 1)) 3, none⟩,
   ⟨some 59, .load 24 (.tmp 1), none⟩,
   ⟨some 60, .move (.tmp 3), none⟩,
   ⟨some 61, .call { callee := (.value (.func 11)), args := #[(.tmp 58), (.tmp 59), (.tmp 60)], argTypes := #[3, 24, 22] }, none⟩,
   ⟨some 56, .move (.tmp 61), none⟩,
   ⟨some 62, .extract (.tmp 56) 0, none⟩,
   ⟨some 63, .extract (.tmp 56) 1, none⟩,
   ⟨some 6, .assign (.tmp 62), none⟩,
   ⟨some 7, .assign (.tmp 63), none⟩]
@[go_sem] def r10_15 : List SOp := [
   ⟨some 65, .move (.tmp 5), none⟩,
   ⟨some 66, .binOp .add 3 (.tmp 65) (.const (.int .i64 1)) 3, none⟩,
   ⟨some 67, .load 24 (.tmp 1), none⟩,
   ⟨some 68, .move (.tmp 3), none⟩,
   ⟨some 69, .call { callee := (.value (.func 12)), args := #[(.tmp 66), (.tmp 67), (.tmp 68)], argTypes := #[3, 24, 22] }, none⟩,
   ⟨some 64, .move (.tmp 69), none⟩,
   ⟨some 70, .extract (.tmp 64) 0, none⟩,
   ⟨some 71, .extract (.tmp 64) 1, none⟩,
   ⟨some 8, .assign (.tmp 70), none⟩,
   ⟨some 9, .assign (.tmp 71), none⟩]
@[go_sem] def r10_16 : List SOp := [
   ⟨some 72, .move (.tmp 7), none⟩,
   ⟨some 73, .binOp .neq 27 (.tmp 72) (.const (.int .i64 0)) 27, none⟩,
   ⟨some 74, .move (.tmp 73), none⟩,
   ⟨some 75, .move (.tmp 9), (some (some 74, false))⟩,
   ⟨some 76, .binOp .neq 27 (.tmp 75) (.const (.int .i64 0)) 27, (some (some 74, false))⟩,
   ⟨some 77, .pick (.tmp 74) (.const (.bool true)) (.tmp 76), none⟩,
   ⟨some 78, .move (.tmp 77), none⟩,
   ⟨some 79, .move (.tmp 6), (some (some 78, false))⟩,
   ⟨some 80, .move (.tmp 4), (some (some 78, false))⟩,
   ⟨some 81, .move (.tmp 5), (some (some 78, false))⟩,
   ⟨some 82, .indexAddr 22 (.tmp 80) (.tmp 81), (some (some 78, false))⟩,
   ⟨some 83, .load 3 (.tmp 82), (some (some 78, false))⟩,
   ⟨some 84, .binOp .neq 3 (.tmp 79) (.tmp 83) 3, (some (some 78, false))⟩,
   ⟨some 85, .pick (.tmp 78) (.const (.bool true)) (.tmp 84), none⟩,
   ⟨some 86, .move (.tmp 85), none⟩,
   ⟨some 87, .move (.tmp 8), (some (some 86, false))⟩,
   ⟨some 88, .move (.tmp 4), (some (some 86, false))⟩,
   ⟨some 89, .move (.tmp 5), (some (some 86, false))⟩,
   ⟨some 90, .binOp .add 3 (.tmp 89) (.const (.int .i64 3)) 3, (some (some 86, false))⟩,
   ⟨some 91, .indexAddr 22 (.tmp 88) (.tmp 90), (some (some 86, false))⟩,
   ⟨some 92, .load 3 (.tmp 91), (some (some 86, false))⟩,
   ⟨some 93, .binOp .neq 3 (.tmp 87) (.tmp 92) 3, (some (some 86, false))⟩,
   ⟨some 94, .pick (.tmp 86) (.const (.bool true)) (.tmp 93), none⟩]
@[go_sem] def r10_17 : List SOp := [
   ⟨some 0, .assign (.const (.bool false)), none⟩]
def c10_18 : SC := .seq (.reg r10_17 [0, 1, 3, 4, 5]) .ret
def c10_19 : SC := .cond (.tmp 94) c10_18 .skip
def c10_20 : SC := .seq (.reg r10_16 [0, 1, 3, 4, 5, 94]) c10_19
def c10_21 : SC := .seq (.reg r10_15 [0, 1, 3, 4, 5, 6, 7, 8, 9]) c10_20
def c10_22 : SC := .seq (.reg r10_14 [0, 1, 3, 4, 5, 6, 7]) c10_21
@[go_sem] def r10_23 : List SOp := [
   ⟨some 54, .move (.tmp 5), none⟩,
   ⟨some 55, .binOp .add 3 (.tmp 54) (.const (.int .i64 1)) 3, none⟩,
   ⟨some 5, .assign (.tmp 55), none⟩]
def c10_24 : SC := .seq (.block 1 c10_22) (.reg r10_23 [0, 1, 3, 4, 5])
def c10_25 : SC := .seq c10_13 c10_24
def c10_26 : SC := .seq (.reg r10_10 [0, 1, 3, 4, 5]) (.block 0 (.loop c10_25))
@[go_sem] def r10_27 : List SOp := [
   ⟨some 96, .load 24 (.tmp 1), none⟩,
   ⟨some 97, .call { callee := (.value (.func 14)), args := #[(.tmp 96), (.const (.int .i64 0)), (.const (.int .i64 1))], argTypes := #[24, 3, 3] }, none⟩,
   ⟨some 95, .move (.tmp 97), none⟩,
   ⟨some 98, .extract (.tmp 95) 0, none⟩,
   ⟨some 99, .extract (.tmp 95) 1, none⟩,
   ⟨some 100, .extract (.tmp 95) 2, none⟩,
   ⟨some 10, .alloc 24, none⟩,
   ⟨some 11, .alloc 24, none⟩,
   ⟨none, .store 24 (.tmp 10) (.tmp 98), none⟩,
   ⟨none, .store 24 (.tmp 11) (.tmp 99), none⟩,
   ⟨some 12, .assign (.tmp 100), none⟩]
@[go_sem] def r10_28 : List SOp := [
   ⟨some 102, .load 24 (.tmp 1), none⟩,
   ⟨some 103, .call { callee := (.value (.func 15)), args := #[(.tmp 102)], argTypes := #[24] }, none⟩,
   ⟨some 101, .move (.tmp 103), none⟩,
   ⟨some 104, .extract (.tmp 101) 0, none⟩,
   ⟨some 105, .extract (.tmp 101) 1, none⟩,
   ⟨some 106, .extract (.tmp 101) 2, none⟩,
   ⟨some 13, .assign (.tmp 104), none⟩,
   ⟨some 14, .assign (.tmp 105), none⟩,
   ⟨some 15, .assign (.tmp 106), none⟩]
@[go_sem] def r10_29 : List SOp := [
   ⟨some 108, .load 24 (.tmp 1), none⟩,
   ⟨some 109, .buildSlice 22 2 #[(0, (.const (.int .i64 5))), (1, (.const (.int .i64 0)))], none⟩,
   ⟨some 110, .buildSlice 22 2 #[(0, (.const (.int .i64 5))), (1, (.const (.int .i64 0)))], none⟩,
   ⟨some 111, .build 24 #[(0, (.tmp 109)), (1, (.tmp 110))], none⟩,
   ⟨some 112, .call { callee := (.value (.func 29)), args := #[(.tmp 108), (.tmp 111)], argTypes := #[24, 24] }, none⟩,
   ⟨some 107, .move (.tmp 112), none⟩,
   ⟨some 113, .extract (.tmp 107) 0, none⟩,
   ⟨some 114, .extract (.tmp 107) 1, none⟩,
   ⟨some 115, .extract (.tmp 107) 2, none⟩,
   ⟨some 16, .alloc 24, none⟩,
   ⟨none, .store 24 (.tmp 16) (.tmp 113), none⟩,
   ⟨some 17, .assign (.tmp 114), none⟩,
   ⟨some 18, .assign (.tmp 115), none⟩]
@[go_sem] def r10_30 : List SOp := [
   ⟨some 117, .load 24 (.tmp 1), none⟩,
   ⟨some 118, .buildSlice 22 2 #[(0, (.const (.int .i64 7))), (1, (.const (.int .i64 5)))], none⟩,
   ⟨some 119, .buildSlice 22 2 #[(0, (.const (.int .i64 9))), (1, (.const (.int .i64 9)))], none⟩,
   ⟨some 120, .build 24 #[(0, (.tmp 118)), (1, (.tmp 119))], none⟩,
   ⟨some 121, .call { callee := (.value (.func 13)), args := #[(.const (.int .i64 2)), (.tmp 117), (.tmp 120)], argTypes := #[3, 24, 24] }, none⟩,
   ⟨some 116, .move (.tmp 121), none⟩,
   ⟨some 122, .extract (.tmp 116) 0, none⟩,
   ⟨some 123, .extract (.tmp 116) 1, none⟩,
   ⟨some 19, .assign (.tmp 122), none⟩,
   ⟨some 20, .assign (.tmp 123), none⟩]
@[go_sem] def r10_31 : List SOp := [
   ⟨some 124, .move (.tmp 12), none⟩,
   ⟨some 125, .binOp .eql 27 (.tmp 124) (.const (.int .i64 0)) 27, none⟩,
   ⟨some 126, .move (.tmp 125), none⟩,
   ⟨some 127, .load 24 (.tmp 10), (some (some 126, true))⟩,
   ⟨some 128, .buildSlice 22 2 #[(0, (.const (.int .i64 0))), (1, (.const (.int .i64 0)))], (some (some 126, true))⟩,
   ⟨some 129, .buildSlice 22 2 #[(0, (.const (.int .i64 1))), (1, (.const (.int .i64 2)))], (some (some 126, true))⟩,
   ⟨some 130, .build 24 #[(0, (.tmp 128)), (1, (.tmp 129))], (some (some 126, true))⟩,
   ⟨some 131, .call { callee := (.value (.func 21)), args := #[(.tmp 127), (.tmp 130)], argTypes := #[24, 24] }, (some (some 126, true))⟩,
   ⟨some 132, .pick (.tmp 126) (.tmp 131) (.const (.bool false)), none⟩,
   ⟨some 133, .move (.tmp 132), none⟩,
   ⟨some 134, .load 24 (.tmp 11), (some (some 133, true))⟩,
   ⟨some 135, .buildSlice 22 2 #[(0, (.const (.int .i64 2))), (1, (.const (.int .i64 0)))], (some (some 133, true))⟩,
   ⟨some 136, .buildSlice 22 2 #[(0, (.const (.int .i64 4))), (1, (.const (.int .i64 2)))], (some (some 133, true))⟩,
   ⟨some 137, .build 24 #[(0, (.tmp 135)), (1, (.tmp 136))], (some (some 133, true))⟩,
   ⟨some 138, .call { callee := (.value (.func 21)), args := #[(.tmp 134), (.tmp 137)], argTypes := #[24, 24] }, (some (some 133, true))⟩,
   ⟨some 139, .pick (.tmp 133) (.tmp 138) (.const (.bool false)), none⟩,
   ⟨some 21, .assign (.tmp 139), none⟩]
@[go_sem] def r10_32 : List SOp := [
   ⟨some 140, .move (.tmp 21), none⟩,
   ⟨some 141, .move (.tmp 140), none⟩,
   ⟨some 142, .move (.tmp 15), (some (some 141, true))⟩,
   ⟨some 143, .binOp .eql 27 (.tmp 142) (.const (.int .i64 0)) 27, (some (some 141, true))⟩,
   ⟨some 144, .pick (.tmp 141) (.tmp 143) (.const (.bool false)), none⟩,
   ⟨some 145, .move (.tmp 144), none⟩,
   ⟨some 146, .move (.tmp 13), (some (some 145, true))⟩,
   ⟨some 147, .binOp .eql 3 (.tmp 146) (.const (.int .i64 0)) 3, (some (some 145, true))⟩,
   ⟨some 148, .pick (.tmp 145) (.tmp 147) (.const (.bool false)), none⟩,
   ⟨some 149, .move (.tmp 148), none⟩,
   ⟨some 150, .move (.tmp 14), (some (some 149, true))⟩,
   ⟨some 151, .binOp .eql 3 (.tmp 150) (.const (.int .i64 2)) 3, (some (some 149, true))⟩,
   ⟨some 152, .pick (.tmp 149) (.tmp 151) (.const (.bool false)), none⟩,
   ⟨some 153, .move (.tmp 152), none⟩,
   ⟨some 154, .move (.tmp 18), (some (some 153, true))⟩,
   ⟨some 155, .binOp .eql 27 (.tmp 154) (.const (.int .i64 0)) 27, (some (some 153, true))⟩,
   ⟨some 156, .pick (.tmp 153) (.tmp 155) (.const (.bool false)), none⟩,
   ⟨some 157, .move (.tmp 156), none⟩,
   ⟨some 158, .move (.tmp 17), (some (some 157, true))⟩,
   ⟨some 159, .unOp .not 4 (.tmp 158), (some (some 157, true))⟩,
   ⟨some 160, .pick (.tmp 157) (.tmp 159) (.const (.bool false)), none⟩,
   ⟨some 161, .move (.tmp 160), none⟩,
   ⟨some 162, .move (.tmp 20), (some (some 161, true))⟩,
   ⟨some 163, .binOp .eql 27 (.tmp 162) (.const (.int .i64 0)) 27, (some (some 161, true))⟩,
   ⟨some 164, .pick (.tmp 161) (.tmp 163) (.const (.bool false)), none⟩,
   ⟨some 165, .move (.tmp 164), none⟩,
   ⟨some 166, .move (.tmp 19), (some (some 165, true))⟩,
   ⟨some 167, .binOp .eql 3 (.tmp 166) (.const (.int .i64 18)) 3, (some (some 165, true))⟩,
   ⟨some 168, .pick (.tmp 165) (.tmp 167) (.const (.bool false)), none⟩,
   ⟨some 0, .assign (.tmp 168), none⟩]
def c10_33 : SC := .seq (.reg r10_32 [0]) .ret
def c10_34 : SC := .seq (.reg r10_31 [0, 13, 14, 15, 17, 18, 19, 20, 21]) c10_33
def c10_35 : SC := .seq (.reg r10_30 [0, 10, 11, 12, 13, 14, 15, 17, 18, 19, 20]) c10_34
def c10_36 : SC := .seq (.reg r10_29 [0, 1, 10, 11, 12, 13, 14, 15, 17, 18]) c10_35
def c10_37 : SC := .seq (.reg r10_28 [0, 1, 10, 11, 12, 13, 14, 15]) c10_36
def c10_38 : SC := .seq (.reg r10_27 [0, 1, 10, 11, 12]) c10_37
def c10_39 : SC := .seq c10_26 c10_38
def c10_40 : SC := .seq (.reg r10_9 [0, 1, 3, 4]) c10_39
def c10_41 : SC := .seq c10_8 c10_40
def c10_42 : SC := .seq (.reg r10_3 [0, 1, 2, 3]) c10_41
def c10_43 : SC := .seq (.reg r10_2 [0, 1, 2]) c10_42
def c10_44 : SC := .seq (.reg r10_1 [0]) c10_43
def c10 : SC := c10_44
noncomputable def X10 (M : Mem) : Fx := ⟨Try.prog, T, 169, 10, [(.tmp 0)], [], [], M, none⟩
section
variable (M : Mem)
@[go_sem] theorem X10.P : (X10 M).P = Try.prog := rfl
@[go_sem] theorem X10.T : (X10 M).T = T := rfl
@[go_sem] theorem X10.N : (X10 M).N = 169 := rfl
@[go_sem] theorem X10.rs : (X10 M).rs = [(.tmp 0)] := rfl
@[go_sem] theorem X10.own : (X10 M).own = [] := rfl
@[go_sem] theorem X10.M0 : (X10 M).M0 = M := rfl
@[go_sem] theorem X10.ro : (X10 M).ro = none := rfl
end
theorem k10 : (Try.f10.name == "runtime.NumGoroutine") = false ∧ Try.f10.ntmps = 169 ∧ Try.f10.results.toList = [(.tmp 0)] ∧ okC (X10 fun _ => none) ((Try.f10.body).getD .skip) = true ∧ c10.bare = slim (X10 fun _ => none) ((Try.f10.body).getD .skip) := ⟨by kernel_rfl, by kernel_rfl, by kernel_rfl, by kernel_rfl, by kernel_rfl⟩
theorem a10 {al : List AV} {M : Mem} {Q : AV → Mem → Prop} (hN : al.length ≤ 169) (h : SRuns (X10 M) [.code c10] (lk (num 0 al)) M [] Q) : ACalls Try.prog 10 al M Q := ACalls.of_slim c10 [] [] (tabOf_ok _) Try.func10 (by kernel_rfl : Try.f10.body = some ((Try.f10.body).getD .skip)) 169 [(.tmp 0)] k10 hN h

-- antiquary/box.Near
@[go_sem] def r11_1 : List SOp := [
   ⟨some 4, .box 24 (.tmp 1), none⟩,
   ⟨some 6, .assign (.const (.int .i64 0)), none⟩,
   ⟨some 7, .assign (.const (.int .i64 0)), none⟩]
@[go_sem] def r11_2 : List SOp := [
   ⟨some 8, .move (.tmp 0), none⟩,
   ⟨some 9, .load 24 (.tmp 4), none⟩,
   ⟨some 10, .move (.tmp 2), none⟩,
   ⟨some 11, .call { callee := (.value (.func 41)), args := #[(.tmp 8), (.tmp 9), (.tmp 10), (.func 42)], argTypes := #[3, 24, 22, 71] }, none⟩,
   ⟨some 12, .extract (.tmp 11) 0, none⟩,
   ⟨some 13, .extract (.tmp 11) 1, none⟩,
   ⟨some 6, .assign (.tmp 12), none⟩,
   ⟨some 7, .assign (.tmp 13), none⟩]
def c11_3 : SC := .seq (.reg r11_2 [6, 7]) .ret
def c11_4 : SC := .seq (.reg r11_1 [0, 2, 4, 6, 7]) c11_3
def c11 : SC := c11_4
noncomputable def X11 (M : Mem) : Fx := ⟨Try.prog, T, 14, 11, [(.tmp 6), (.tmp 7)], [], [], M, none⟩
section
variable (M : Mem)
@[go_sem] theorem X11.P : (X11 M).P = Try.prog := rfl
@[go_sem] theorem X11.T : (X11 M).T = T := rfl
@[go_sem] theorem X11.N : (X11 M).N = 14 := rfl
@[go_sem] theorem X11.rs : (X11 M).rs = [(.tmp 6), (.tmp 7)] := rfl
@[go_sem] theorem X11.own : (X11 M).own = [] := rfl
@[go_sem] theorem X11.M0 : (X11 M).M0 = M := rfl
@[go_sem] theorem X11.ro : (X11 M).ro = none := rfl
end
theorem k11 : (Try.f11.name == "runtime.NumGoroutine") = false ∧ Try.f11.ntmps = 14 ∧ Try.f11.results.toList = [(.tmp 6), (.tmp 7)] ∧ okC (X11 fun _ => none) ((Try.f11.body).getD .skip) = true ∧ c11.bare = slim (X11 fun _ => none) ((Try.f11.body).getD .skip) := ⟨by kernel_rfl, by kernel_rfl, by kernel_rfl, by kernel_rfl, by kernel_rfl⟩
theorem a11 {al : List AV} {M : Mem} {Q : AV → Mem → Prop} (hN : al.length ≤ 14) (h : SRuns (X11 M) [.code c11] (lk (num 0 al)) M [] Q) : ACalls Try.prog 11 al M Q := ACalls.of_slim c11 [] [] (tabOf_ok _) Try.func11 (by kernel_rfl : Try.f11.body = some ((Try.f11.body).getD .skip)) 14 [(.tmp 6), (.tmp 7)] k11 hN h

-- antiquary/box.Far
@[go_sem] def r12_1 : List SOp := [
   ⟨some 4, .box 24 (.tmp 1), none⟩,
   ⟨some 6, .assign (.const (.int .i64 0)), none⟩,
   ⟨some 7, .assign (.const (.int .i64 0)), none⟩]
@[go_sem] def r12_2 : List SOp := [
   ⟨some 8, .move (.tmp 0), none⟩,
   ⟨some 9, .load 24 (.tmp 4), none⟩,
   ⟨some 10, .move (.tmp 2), none⟩,
   ⟨some 11, .call { callee := (.value (.func 41)), args := #[(.tmp 8), (.tmp 9), (.tmp 10), (.func 43)], argTypes := #[3, 24, 22, 71] }, none⟩,
   ⟨some 12, .extract (.tmp 11) 0, none⟩,
   ⟨some 13, .extract (.tmp 11) 1, none⟩,
   ⟨some 6, .assign (.tmp 12), none⟩,
   ⟨some 7, .assign (.tmp 13), none⟩]
def c12_3 : SC := .seq (.reg r12_2 [6, 7]) .ret
def c12_4 : SC := .seq (.reg r12_1 [0, 2, 4, 6, 7]) c12_3
def c12 : SC := c12_4
noncomputable def X12 (M : Mem) : Fx := ⟨Try.prog, T, 14, 12, [(.tmp 6), (.tmp 7)], [], [], M, none⟩
section
variable (M : Mem)
@[go_sem] theorem X12.P : (X12 M).P = Try.prog := rfl
@[go_sem] theorem X12.T : (X12 M).T = T := rfl
@[go_sem] theorem X12.N : (X12 M).N = 14 := rfl
@[go_sem] theorem X12.rs : (X12 M).rs = [(.tmp 6), (.tmp 7)] := rfl
@[go_sem] theorem X12.own : (X12 M).own = [] := rfl
@[go_sem] theorem X12.M0 : (X12 M).M0 = M := rfl
@[go_sem] theorem X12.ro : (X12 M).ro = none := rfl
end
theorem k12 : (Try.f12.name == "runtime.NumGoroutine") = false ∧ Try.f12.ntmps = 14 ∧ Try.f12.results.toList = [(.tmp 6), (.tmp 7)] ∧ okC (X12 fun _ => none) ((Try.f12.body).getD .skip) = true ∧ c12.bare = slim (X12 fun _ => none) ((Try.f12.body).getD .skip) := ⟨by kernel_rfl, by kernel_rfl, by kernel_rfl, by kernel_rfl, by kernel_rfl⟩
theorem a12 {al : List AV} {M : Mem} {Q : AV → Mem → Prop} (hN : al.length ≤ 14) (h : SRuns (X12 M) [.code c12] (lk (num 0 al)) M [] Q) : ACalls Try.prog 12 al M Q := ACalls.of_slim c12 [] [] (tabOf_ok _) Try.func12 (by kernel_rfl : Try.f12.body = some ((Try.f12.body).getD .skip)) 14 [(.tmp 6), (.tmp 7)] k12 hN h

-- antiquary/box.Apart
@[go_sem] def r13_1 : List SOp := [
   ⟨some 4, .box 24 (.tmp 1), none⟩,
   ⟨some 5, .box 24 (.tmp 2), none⟩,
   ⟨some 6, .assign (.const (.int .i64 0)), none⟩,
   ⟨some 7, .assign (.const (.int .i64 0)), none⟩]
@[go_sem] def r13_2 : List SOp := [
   ⟨some 10, .load 24 (.tmp 4), none⟩,
   ⟨some 11, .load 24 (.tmp 5), none⟩,
   ⟨some 12, .call { callee := (.value (.func 44)), args := #[(.tmp 10), (.tmp 11)], argTypes := #[24, 24] }, none⟩,
   ⟨some 13, .unOp .not 4 (.tmp 12), none⟩]
@[go_sem] def r13_3 : List SOp := [
   ⟨some 6, .assign (.const (.int .i64 0)), none⟩,
   ⟨some 7, .assign (.const (.int .i64 1)), none⟩]
def c13_4 : SC := .seq (.reg r13_3 [0, 4, 5, 6, 7]) .ret
def c13_5 : SC := .cond (.tmp 13) c13_4 .skip
def c13_6 : SC := .seq (.reg r13_2 [0, 4, 5, 6, 7, 13]) c13_5
@[go_sem] def r13_7 : List SOp := [
   ⟨some 15, .move (.tmp 0), none⟩,
   ⟨some 16, .makeFunc (.func 46) #[] #[(.tmp 4), (.tmp 5)], none⟩,
   ⟨some 17, .call { callee := (.value (.func 45)), args := #[(.tmp 15), (.tmp 16)], argTypes := #[3, 86] }, none⟩,
   ⟨some 14, .move (.tmp 17), none⟩,
   ⟨some 18, .extract (.tmp 14) 0, none⟩,
   ⟨some 19, .extract (.tmp 14) 1, none⟩,
   ⟨some 8, .assign (.tmp 18), none⟩,
   ⟨some 9, .assign (.tmp 19), none⟩]
@[go_sem] def r13_8 : List SOp := [
   ⟨some 20, .move (.tmp 9), none⟩,
   ⟨some 21, .unOp .not 4 (.tmp 20), none⟩]
@[go_sem] def r13_9 : List SOp := [
   ⟨some 6, .assign (.const (.int .i64 0)), none⟩,
   ⟨some 7, .assign (.const (.int .i64 1)), none⟩]
def c13_10 : SC := .seq (.reg r13_9 [6, 7, 8]) .ret
def c13_11 : SC := .cond (.tmp 21) c13_10 .skip
def c13_12 : SC := .seq (.reg r13_8 [6, 7, 8, 21]) c13_11
@[go_sem] def r13_13 : List SOp := [
   ⟨some 22, .move (.tmp 8), none⟩,
   ⟨some 6, .assign (.tmp 22), none⟩,
   ⟨some 7, .assign (.const (.int .i64 0)), none⟩]
def c13_14 : SC := .seq (.reg r13_13 [6, 7]) .ret
def c13_15 : SC := .seq c13_12 c13_14
def c13_16 : SC := .seq (.reg r13_7 [6, 7, 8, 9]) c13_15
def c13_17 : SC := .seq c13_6 c13_16
def c13_18 : SC := .seq (.reg r13_1 [0, 4, 5, 6, 7]) c13_17
def c13 : SC := c13_18
noncomputable def X13 (M : Mem) : Fx := ⟨Try.prog, T, 23, 13, [(.tmp 6), (.tmp 7)], [], [], M, none⟩
section
variable (M : Mem)
@[go_sem] theorem X13.P : (X13 M).P = Try.prog := rfl
@[go_sem] theorem X13.T : (X13 M).T = T := rfl
@[go_sem] theorem X13.N : (X13 M).N = 23 := rfl
@[go_sem] theorem X13.rs : (X13 M).rs = [(.tmp 6), (.tmp 7)] := rfl
@[go_sem] theorem X13.own : (X13 M).own = [] := rfl
@[go_sem] theorem X13.M0 : (X13 M).M0 = M := rfl
@[go_sem] theorem X13.ro : (X13 M).ro = none := rfl
end
theorem k13 : (Try.f13.name == "runtime.NumGoroutine") = false ∧ Try.f13.ntmps = 23 ∧ Try.f13.results.toList = [(.tmp 6), (.tmp 7)] ∧ okC (X13 fun _ => none) ((Try.f13.body).getD .skip) = true ∧ c13.bare = slim (X13 fun _ => none) ((Try.f13.body).getD .skip) := ⟨by kernel_rfl, by kernel_rfl, by kernel_rfl, by kernel_rfl, by kernel_rfl⟩
theorem a13 {al : List AV} {M : Mem} {Q : AV → Mem → Prop} (hN : al.length ≤ 23) (h : SRuns (X13 M) [.code c13] (lk (num 0 al)) M [] Q) : ACalls Try.prog 13 al M Q := ACalls.of_slim c13 [] [] (tabOf_ok _) Try.func13 (by kernel_rfl : Try.f13.body = some ((Try.f13.body).getD .skip)) 23 [(.tmp 6), (.tmp 7)] k13 hN h

-- antiquary/box.Cut
@[go_sem] def r14_1 : List SOp := [
   ⟨some 3, .box 24 (.tmp 0), none⟩,
   ⟨some 6, .alloc 24, none⟩,
   ⟨some 7, .alloc 24, none⟩,
   ⟨some 8, .assign (.const (.int .i64 0)), none⟩]
@[go_sem] def r14_2 : List SOp := [
   ⟨some 11, .load 24 (.tmp 3), none⟩,
   ⟨some 12, .call { callee := (.value (.func 24)), args := #[(.tmp 11)], argTypes := #[24] }, none⟩,
   ⟨some 13, .unOp .not 4 (.tmp 12), none⟩,
   ⟨some 14, .move (.tmp 13), none⟩,
   ⟨some 15, .move (.tmp 1), (some (some 14, false))⟩,
   ⟨some 16, .binOp .lss 3 (.tmp 15) (.const (.int .i64 0)) 3, (some (some 14, false))⟩,
   ⟨some 17, .pick (.tmp 14) (.const (.bool true)) (.tmp 16), none⟩,
   ⟨some 18, .move (.tmp 17), none⟩,
   ⟨some 19, .move (.tmp 1), (some (some 18, false))⟩,
   ⟨some 20, .fieldAddr 24 (.tmp 3) 0, (some (some 18, false))⟩,
   ⟨some 21, .load 22 (.tmp 20), (some (some 18, false))⟩,
   ⟨some 22, .call { callee := (.builtin .len), args := #[(.tmp 21)], argTypes := #[22] }, (some (some 18, false))⟩,
   ⟨some 23, .binOp .geq 3 (.tmp 19) (.tmp 22) 3, (some (some 18, false))⟩,
   ⟨some 24, .pick (.tmp 18) (.const (.bool true)) (.tmp 23), none⟩,
   ⟨some 25, .move (.tmp 24), none⟩,
   ⟨some 26, .move (.tmp 2), (some (some 25, false))⟩,
   ⟨some 27, .fieldAddr 24 (.tmp 3) 0, (some (some 25, false))⟩,
   ⟨some 28, .load 22 (.tmp 27), (some (some 25, false))⟩,
   ⟨some 29, .move (.tmp 1), (some (some 25, false))⟩,
   ⟨some 30, .indexAddr 22 (.tmp 28) (.tmp 29), (some (some 25, false))⟩,
   ⟨some 31, .load 3 (.tmp 30), (some (some 25, false))⟩,
   ⟨some 32, .binOp .lss 3 (.tmp 26) (.tmp 31) 3, (some (some 25, false))⟩,
   ⟨some 33, .pick (.tmp 25) (.const (.bool true)) (.tmp 32), none⟩,
   ⟨some 34, .move (.tmp 33), none⟩,
   ⟨some 35, .move (.tmp 2), (some (some 34, false))⟩,
   ⟨some 36, .fieldAddr 24 (.tmp 3) 1, (some (some 34, false))⟩,
   ⟨some 37, .load 22 (.tmp 36), (some (some 34, false))⟩,
   ⟨some 38, .move (.tmp 1), (some (some 34, false))⟩,
   ⟨some 39, .indexAddr 22 (.tmp 37) (.tmp 38), (some (some 34, false))⟩,
   ⟨some 40, .load 3 (.tmp 39), (some (some 34, false))⟩,
   ⟨some 41, .binOp .geq 3 (.tmp 35) (.tmp 40) 3, (some (some 34, false))⟩,
   ⟨some 42, .pick (.tmp 34) (.const (.bool true)) (.tmp 41), none⟩]
@[go_sem] def r14_3 : List SOp := [
   ⟨some 43, .build 24 #[], none⟩,
   ⟨some 44, .build 24 #[], none⟩,
   ⟨none, .store 24 (.tmp 6) (.tmp 43), none⟩,
   ⟨none, .store 24 (.tmp 7) (.tmp 44), none⟩,
   ⟨some 8, .assign (.const (.int .i64 1)), none⟩]
def c14_4 : SC := .seq (.reg r14_3 [1, 2, 3, 6, 7, 8]) .ret
def c14_5 : SC := .cond (.tmp 42) c14_4 .skip
def c14_6 : SC := .seq (.reg r14_2 [1, 2, 3, 6, 7, 8, 42]) c14_5
@[go_sem] def r14_7 : List (SOp × List Nat) := [
   (⟨some 45, .fieldAddr 24 (.tmp 3) 0, none⟩, [3, 4, 7]),
   (⟨some 46, .load 22 (.tmp 45), none⟩, [3, 4, 7]),
   (⟨some 47, .call { callee := (.value (.func 47)), args := #[(.tmp 46)], argTypes := #[22] }, none⟩, [3, 4, 7]),
   (⟨some 48, .fieldAddr 24 (.tmp 3) 1, none⟩, [0, 1, 2, 7]),
   (⟨some 49, .load 22 (.tmp 48), none⟩, [0, 1, 2, 7]),
   (⟨some 50, .call { callee := (.value (.func 47)), args := #[(.tmp 49)], argTypes := #[22] }, none⟩, [7]),
   (⟨some 51, .build 24 #[(0, (.tmp 47)), (1, (.tmp 50))], none⟩, [7]),
   (⟨some 9, .alloc 24, none⟩, [0, 1, 2, 3, 4, 5, 6]),
   (⟨none, .store 24 (.tmp 9) (.tmp 51), none⟩, [])]
@[go_sem] def r14_8 : List (SOp × List Nat) := [
   (⟨some 52, .fieldAddr 24 (.tmp 3) 0, none⟩, [3, 4, 7]),
   (⟨some 53, .load 22 (.tmp 52), none⟩, [3, 4, 7]),
   (⟨some 54, .call { callee := (.value (.func 47)), args := #[(.tmp 53)], argTypes := #[22] }, none⟩, [3, 4, 7]),
   (⟨some 55, .fieldAddr 24 (.tmp 3) 1, none⟩, [0, 1, 2, 7]),
   (⟨some 56, .load 22 (.tmp 55), none⟩, [0, 1, 2, 7]),
   (⟨some 57, .call { callee := (.value (.func 47)), args := #[(.tmp 56)], argTypes := #[22] }, none⟩, [7]),
   (⟨some 58, .build 24 #[(0, (.tmp 54)), (1, (.tmp 57))], none⟩, [7]),
   (⟨some 10, .alloc 24, none⟩, [0, 1, 2, 3, 4, 5, 6]),
   (⟨none, .store 24 (.tmp 10) (.tmp 58), none⟩, [])]
@[go_sem] def r14_9 : List (SOp × List Nat) := [
   (⟨some 59, .fieldAddr 24 (.tmp 9) 1, none⟩, [2, 3, 4, 5, 6, 7, 8]),
   (⟨some 60, .load 22 (.tmp 59), none⟩, [2, 3, 4, 5, 6, 7, 8]),
   (⟨some 61, .move (.tmp 1), none⟩, [0, 1, 3, 4, 5, 6, 7, 8]),
   (⟨some 62, .fieldAddr 24 (.tmp 10) 0, none⟩, [0, 1, 2, 5, 6, 7, 8, 9, 10]),
   (⟨some 63, .load 22 (.tmp 62), none⟩, [0, 1, 2, 5, 6, 7, 8, 9, 10]),
   (⟨some 64, .move (.tmp 1), none⟩, [0, 1, 2, 3, 4, 6, 7, 8, 9, 10]),
   (⟨some 65, .move (.tmp 2), none⟩, [0, 1, 2, 3, 4, 5, 7, 8]),
   (⟨some 66, .move (.tmp 2), none⟩, [0, 1, 2, 3, 4, 5, 6, 9, 10]),
   (⟨some 67, .binOp .add 3 (.tmp 66) (.const (.int .i64 1)) 3, none⟩, [0, 1, 2, 3, 4, 5, 6, 9, 10]),
   (⟨some 68, .indexAddr 22 (.tmp 60) (.tmp 61), none⟩, [3, 4, 5, 7, 8]),
   (⟨none, .store 3 (.tmp 68) (.tmp 65), none⟩, [3, 4, 5, 7, 8]),
   (⟨some 69, .indexAddr 22 (.tmp 63) (.tmp 64), none⟩, []),
   (⟨none, .store 3 (.tmp 69) (.tmp 67), none⟩, [])]
@[go_sem] def r14_10 : List (SOp × List Nat) := [
   (⟨some 70, .load 24 (.tmp 9), none⟩, [1]),
   (⟨some 71, .load 24 (.tmp 10), none⟩, [0, 2]),
   (⟨none, .store 24 (.tmp 6) (.tmp 70), none⟩, [1]),
   (⟨none, .store 24 (.tmp 7) (.tmp 71), none⟩, []),
   (⟨some 8, .assign (.const (.int .i64 0)), none⟩, [])]
def c14_11 : SC := .seq (.draw r14_10 [6, 7, 8]) .ret
def c14_12 : SC := .seq (.draw r14_9 [6, 7, 8, 9, 10]) c14_11
def c14_13 : SC := .seq (.draw r14_8 [1, 2, 6, 7, 8, 9, 10]) c14_12
def c14_14 : SC := .seq (.draw r14_7 [1, 2, 3, 6, 7, 8, 9]) c14_13
def c14_15 : SC := .seq c14_6 c14_14
def c14_16 : SC := .seq (.reg r14_1 [1, 2, 3, 6, 7, 8]) c14_15
def c14 : SC := c14_16
noncomputable def X14 (M : Mem) : Fx := ⟨Try.prog, T, 72, 14, [(.cell 6 24), (.cell 7 24), (.tmp 8)], [], [], M, none⟩
section
variable (M : Mem)
@[go_sem] theorem X14.P : (X14 M).P = Try.prog := rfl
@[go_sem] theorem X14.T : (X14 M).T = T := rfl
@[go_sem] theorem X14.N : (X14 M).N = 72 := rfl
@[go_sem] theorem X14.rs : (X14 M).rs = [(.cell 6 24), (.cell 7 24), (.tmp 8)] := rfl
@[go_sem] theorem X14.own : (X14 M).own = [] := rfl
@[go_sem] theorem X14.M0 : (X14 M).M0 = M := rfl
@[go_sem] theorem X14.ro : (X14 M).ro = none := rfl
end
theorem k14 : (Try.f14.name == "runtime.NumGoroutine") = false ∧ Try.f14.ntmps = 72 ∧ Try.f14.results.toList = [(.cell 6 24), (.cell 7 24), (.tmp 8)] ∧ okC (X14 fun _ => none) ((Try.f14.body).getD .skip) = true ∧ c14.bare = slim (X14 fun _ => none) ((Try.f14.body).getD .skip) := ⟨by kernel_rfl, by kernel_rfl, by kernel_rfl, by kernel_rfl, by kernel_rfl⟩
theorem a14 {al : List AV} {M : Mem} {Q : AV → Mem → Prop} (hN : al.length ≤ 72) (h : SRuns (X14 M) [.code c14] (lk (num 0 al)) M [] Q) : ACalls Try.prog 14 al M Q := ACalls.of_slim c14 [] [] (tabOf_ok _) Try.func14 (by kernel_rfl : Try.f14.body = some ((Try.f14.body).getD .skip)) 72 [(.cell 6 24), (.cell 7 24), (.tmp 8)] k14 hN h

-- antiquary/box.Split
@[go_sem] def r15_1 : List SOp := [
   ⟨some 1, .box 24 (.tmp 0), none⟩,
   ⟨some 2, .assign (.const (.int .i64 0)), none⟩,
   ⟨some 3, .assign (.const (.int .i64 0)), none⟩,
   ⟨some 4, .assign (.const (.int .i64 0)), none⟩]
@[go_sem] def r15_2 : List SOp := [
   ⟨some 6, .load 24 (.tmp 1), none⟩,
   ⟨some 7, .call { callee := (.value (.func 24)), args := #[(.tmp 6)], argTypes := #[24] }, none⟩,
   ⟨some 8, .unOp .not 4 (.tmp 7), none⟩]
@[go_sem] def r15_3 : List SOp := [
   ⟨some 2, .assign (.const (.int .i64 0)), none⟩,
   ⟨some 3, .assign (.const (.int .i64 0)), none⟩,
   ⟨some 4, .assign (.const (.int .i64 1)), none⟩]
def c15_4 : SC := .seq (.reg r15_3 [1, 2, 3, 4]) .ret
def c15_5 : SC := .cond (.tmp 8) c15_4 .skip
def c15_6 : SC := .seq (.reg r15_2 [1, 2, 3, 4, 8]) c15_5
@[go_sem] def r15_7 : List SOp := [
   ⟨some 9, .fieldAddr 24 (.tmp 1) 1, none⟩,
   ⟨some 10, .load 22 (.tmp 9), none⟩,
   ⟨some 11, .fieldAddr 24 (.tmp 1) 0, none⟩,
   ⟨some 12, .load 22 (.tmp 11), none⟩,
   ⟨some 13, .call { callee := (.value (.func 48)), args := #[(.tmp 10), (.tmp 12), (.func 49)], argTypes := #[22, 22, 77] }, none⟩,
   ⟨some 5, .assign (.tmp 13), none⟩]
@[go_sem] def r15_8 : List SOp := [
   ⟨some 14, .move (.tmp 5), none⟩,
   ⟨some 15, .move (.tmp 5), none⟩,
   ⟨some 16, .call { callee := (.value (.func 51)), args := #[(.tmp 15)], argTypes := #[22] }, none⟩,
   ⟨some 17, .call { callee := (.value (.func 50)), args := #[(.tmp 14), (.tmp 16)], argTypes := #[22, 3] }, none⟩,
   ⟨some 2, .assign (.tmp 17), none⟩]
@[go_sem] def r15_9 : List SOp := [
   ⟨some 18, .move (.tmp 5), none⟩,
   ⟨some 19, .move (.tmp 2), none⟩,
   ⟨some 20, .indexAddr 22 (.tmp 18) (.tmp 19), none⟩,
   ⟨some 21, .load 3 (.tmp 20), none⟩,
   ⟨some 22, .binOp .eql 3 (.tmp 21) (.const (.int .i64 0)) 3, none⟩]
@[go_sem] def r15_10 : List SOp := [
   ⟨some 2, .assign (.const (.int .i64 0)), none⟩,
   ⟨some 3, .assign (.const (.int .i64 0)), none⟩,
   ⟨some 4, .assign (.const (.int .i64 4)), none⟩]
def c15_11 : SC := .seq (.reg r15_10 [1, 2, 3, 4, 5]) .ret
def c15_12 : SC := .cond (.tmp 22) c15_11 .skip
def c15_13 : SC := .seq (.reg r15_9 [1, 2, 3, 4, 5, 22]) c15_12
@[go_sem] def r15_14 : List (SOp × List Nat) := [
   (⟨some 23, .move (.tmp 2), none⟩, [1, 2, 3, 4, 5, 6, 7, 8, 9, 10, 11]),
   (⟨some 24, .fieldAddr 24 (.tmp 1) 0, none⟩, [0, 3, 6, 7, 8, 9, 10, 12]),
   (⟨some 25, .load 22 (.tmp 24), none⟩, [0, 3, 6, 7, 8, 9, 10, 12]),
   (⟨some 26, .move (.tmp 2), none⟩, [0, 1, 2, 6, 7, 8, 9, 10]),
   (⟨some 27, .indexAddr 22 (.tmp 25) (.tmp 26), none⟩, [0, 6, 7, 8, 9, 10, 12]),
   (⟨some 28, .load 3 (.tmp 27), none⟩, [0, 6, 7, 8, 9, 10, 12]),
   (⟨some 29, .move (.tmp 5), none⟩, [0, 1, 2, 3, 4, 5, 7, 12]),
   (⟨some 30, .move (.tmp 2), none⟩, [0, 1, 2, 3, 4, 5, 6]),
   (⟨some 31, .indexAddr 22 (.tmp 29) (.tmp 30), none⟩, [0, 1, 2, 3, 4, 5, 12]),
   (⟨some 32, .load 3 (.tmp 31), none⟩, [0, 1, 2, 3, 4, 5, 12]),
   (⟨some 33, .binOp .quo 3 (.tmp 32) (.const (.int .i64 2)) 3, none⟩, [0, 1, 2, 3, 4, 5, 12]),
   (⟨some 34, .binOp .add 3 (.tmp 28) (.tmp 33) 3, none⟩, [0, 12]),
   (⟨some 2, .assign (.tmp 23), none⟩, [1, 2, 4, 5, 6, 8, 9, 10, 11]),
   (⟨some 3, .assign (.tmp 34), none⟩, []),
   (⟨some 4, .assign (.const (.int .i64 0)), none⟩, [])]
def c15_15 : SC := .seq (.draw r15_14 [2, 3, 4]) .ret
def c15_16 : SC := .seq c15_13 c15_15
def c15_17 : SC := .seq (.reg r15_8 [1, 2, 3, 4, 5]) c15_16
def c15_18 : SC := .seq (.reg r15_7 [1, 2, 3, 4, 5]) c15_17
def c15_19 : SC := .seq c15_6 c15_18
def c15_20 : SC := .seq (.reg r15_1 [1, 2, 3, 4]) c15_19
def c15 : SC := c15_20
noncomputable def X15 (M : Mem) : Fx := ⟨Try.prog, T, 35, 15, [(.tmp 2), (.tmp 3), (.tmp 4)], [], [], M, none⟩
section
variable (M : Mem)
@[go_sem] theorem X15.P : (X15 M).P = Try.prog := rfl
@[go_sem] theorem X15.T : (X15 M).T = T := rfl
@[go_sem] theorem X15.N : (X15 M).N = 35 := rfl
@[go_sem] theorem X15.rs : (X15 M).rs = [(.tmp 2), (.tmp 3), (.tmp 4)] := rfl
@[go_sem] theorem X15.own : (X15 M).own = [] := rfl
@[go_sem] theorem X15.M0 : (X15 M).M0 = M := rfl
@[go_sem] theorem X15.ro : (X15 M).ro = none := rfl
end
theorem k15 : (Try.f15.name == "runtime.NumGoroutine") = false ∧ Try.f15.ntmps = 35 ∧ Try.f15.results.toList = [(.tmp 2), (.tmp 3), (.tmp 4)] ∧ okC (X15 fun _ => none) ((Try.f15.body).getD .skip) = true ∧ c15.bare = slim (X15 fun _ => none) ((Try.f15.body).getD .skip) := ⟨by kernel_rfl, by kernel_rfl, by kernel_rfl, by kernel_rfl, by kernel_rfl⟩
theorem a15 {al : List AV} {M : Mem} {Q : AV → Mem → Prop} (hN : al.length ≤ 35) (h : SRuns (X15 M) [.code c15] (lk (num 0 al)) M [] Q) : ACalls Try.prog 15 al M Q := ACalls.of_slim c15 [] [] (tabOf_ok _) Try.func15 (by kernel_rfl : Try.f15.body = some ((Try.f15.body).getD .skip)) 35 [(.tmp 2), (.tmp 3), (.tmp 4)] k15 hN h

-- antiquary/antiquaryref06.Near
noncomputable def X16 (M : Mem) : Fx := ⟨Try.prog, T, 22, 16, [(.cell 6 36)], [], [], M, none⟩
section
variable (M : Mem)
@[go_sem] theorem X16.P : (X16 M).P = Try.prog := rfl
@[go_sem] theorem X16.T : (X16 M).T = T := rfl
@[go_sem] theorem X16.N : (X16 M).N = 22 := rfl
@[go_sem] theorem X16.rs : (X16 M).rs = [(.cell 6 36)] := rfl
@[go_sem] theorem X16.own : (X16 M).own = [] := rfl
@[go_sem] theorem X16.M0 : (X16 M).M0 = M := rfl
@[go_sem] theorem X16.ro : (X16 M).ro = none := rfl
end
-- antiquary/antiquaryref06.Far
noncomputable def X17 (M : Mem) : Fx := ⟨Try.prog, T, 22, 17, [(.cell 6 36)], [], [], M, none⟩
section
variable (M : Mem)
@[go_sem] theorem X17.P : (X17 M).P = Try.prog := rfl
@[go_sem] theorem X17.T : (X17 M).T = T := rfl
@[go_sem] theorem X17.N : (X17 M).N = 22 := rfl
@[go_sem] theorem X17.rs : (X17 M).rs = [(.cell 6 36)] := rfl
@[go_sem] theorem X17.own : (X17 M).own = [] := rfl
@[go_sem] theorem X17.M0 : (X17 M).M0 = M := rfl
@[go_sem] theorem X17.ro : (X17 M).ro = none := rfl
end
-- antiquary/antiquaryref06.Apart
noncomputable def X18 (M : Mem) : Fx := ⟨Try.prog, T, 64, 18, [(.cell 6 36)], [], [], M, none⟩
section
variable (M : Mem)
@[go_sem] theorem X18.P : (X18 M).P = Try.prog := rfl
@[go_sem] theorem X18.T : (X18 M).T = T := rfl
@[go_sem] theorem X18.N : (X18 M).N = 64 := rfl
@[go_sem] theorem X18.rs : (X18 M).rs = [(.cell 6 36)] := rfl
@[go_sem] theorem X18.own : (X18 M).own = [] := rfl
@[go_sem] theorem X18.M0 : (X18 M).M0 = M := rfl
@[go_sem] theorem X18.ro : (X18 M).ro = none := rfl
end
-- antiquary/antiquaryref06.Cut
noncomputable def X19 (M : Mem) : Fx := ⟨Try.prog, T, 72, 19, [(.cell 6 40)], [42, 46, 59, 66], [], M, none⟩
section
variable (M : Mem)
@[go_sem] theorem X19.P : (X19 M).P = Try.prog := rfl
@[go_sem] theorem X19.T : (X19 M).T = T := rfl
@[go_sem] theorem X19.N : (X19 M).N = 72 := rfl
@[go_sem] theorem X19.rs : (X19 M).rs = [(.cell 6 40)] := rfl
@[go_sem] theorem X19.own : (X19 M).own = [42, 46, 59, 66] := rfl
@[go_sem] theorem X19.M0 : (X19 M).M0 = M := rfl
@[go_sem] theorem X19.ro : (X19 M).ro = none := rfl
end
-- antiquary/antiquaryref06.Split
noncomputable def X20 (M : Mem) : Fx := ⟨Try.prog, T, 80, 20, [(.cell 2 43)], [], [], M, none⟩
section
variable (M : Mem)
@[go_sem] theorem X20.P : (X20 M).P = Try.prog := rfl
@[go_sem] theorem X20.T : (X20 M).T = T := rfl
@[go_sem] theorem X20.N : (X20 M).N = 80 := rfl
@[go_sem] theorem X20.rs : (X20 M).rs = [(.cell 2 43)] := rfl
@[go_sem] theorem X20.own : (X20 M).own = [] := rfl
@[go_sem] theorem X20.M0 : (X20 M).M0 = M := rfl
@[go_sem] theorem X20.ro : (X20 M).ro = none := rfl
end
-- antiquary/antiquaryref06.SameBox
@[go_sem] def r21_1 : List SOp := [
   ⟨some 2, .box 24 (.tmp 0), none⟩,
   ⟨some 3, .box 24 (.tmp 1), none⟩,
   ⟨some 4, .assign (.const (.bool false)), none⟩]
@[go_sem] def r21_2 : List SOp := [
   ⟨some 5, .fieldAddr 24 (.tmp 2) 0, none⟩,
   ⟨some 6, .load 22 (.tmp 5), none⟩,
   ⟨some 7, .fieldAddr 24 (.tmp 3) 0, none⟩,
   ⟨some 8, .load 22 (.tmp 7), none⟩,
   ⟨some 9, .call { callee := (.value (.func 54)), args := #[(.tmp 6), (.tmp 8)], argTypes := #[22, 22] }, none⟩,
   ⟨some 10, .move (.tmp 9), none⟩,
   ⟨some 11, .fieldAddr 24 (.tmp 2) 1, (some (some 10, true))⟩,
   ⟨some 12, .load 22 (.tmp 11), (some (some 10, true))⟩,
   ⟨some 13, .fieldAddr 24 (.tmp 3) 1, (some (some 10, true))⟩,
   ⟨some 14, .load 22 (.tmp 13), (some (some 10, true))⟩,
   ⟨some 15, .call { callee := (.value (.func 54)), args := #[(.tmp 12), (.tmp 14)], argTypes := #[22, 22] }, (some (some 10, true))⟩,
   ⟨some 16, .pick (.tmp 10) (.tmp 15) (.const (.bool false)), none⟩,
   ⟨some 4, .assign (.tmp 16), none⟩]
def c21_3 : SC := .seq (.reg r21_2 [4]) .ret
def c21_4 : SC := .seq (.reg r21_1 [2, 3, 4]) c21_3
def c21 : SC := c21_4
noncomputable def X21 (M : Mem) : Fx := ⟨Try.prog, T, 17, 21, [(.tmp 4)], [], [], M, none⟩
section
variable (M : Mem)
@[go_sem] theorem X21.P : (X21 M).P = Try.prog := rfl
@[go_sem] theorem X21.T : (X21 M).T = T := rfl
@[go_sem] theorem X21.N : (X21 M).N = 17 := rfl
@[go_sem] theorem X21.rs : (X21 M).rs = [(.tmp 4)] := rfl
@[go_sem] theorem X21.own : (X21 M).own = [] := rfl
@[go_sem] theorem X21.M0 : (X21 M).M0 = M := rfl
@[go_sem] theorem X21.ro : (X21 M).ro = none := rfl
end
theorem k21 : (Try.f21.name == "runtime.NumGoroutine") = false ∧ Try.f21.ntmps = 17 ∧ Try.f21.results.toList = [(.tmp 4)] ∧ okC (X21 fun _ => none) ((Try.f21.body).getD .skip) = true ∧ c21.bare = slim (X21 fun _ => none) ((Try.f21.body).getD .skip) := ⟨by kernel_rfl, by kernel_rfl, by kernel_rfl, by kernel_rfl, by kernel_rfl⟩
theorem a21 {al : List AV} {M : Mem} {Q : AV → Mem → Prop} (hN : al.length ≤ 17) (h : SRuns (X21 M) [.code c21] (lk (num 0 al)) M [] Q) : ACalls Try.prog 21 al M Q := ACalls.of_slim c21 [] [] (tabOf_ok _) Try.func21 (by kernel_rfl : Try.f21.body = some ((Try.f21.body).getD .skip)) 17 [(.tmp 4)] k21 hN h

-- antiquary/box.Has
@[go_sem] def r22_1 : List SOp := [
   ⟨some 2, .box 24 (.tmp 0), none⟩,
   ⟨some 4, .assign (.const (.bool false)), none⟩]
@[go_sem] def r22_2 : List SOp := [
   ⟨some 7, .load 24 (.tmp 2), none⟩,
   ⟨some 8, .call { callee := (.value (.func 24)), args := #[(.tmp 7)], argTypes := #[24] }, none⟩,
   ⟨some 9, .unOp .not 4 (.tmp 8), none⟩,
   ⟨some 10, .move (.tmp 9), none⟩,
   ⟨some 11, .move (.tmp 1), (some (some 10, false))⟩,
   ⟨some 12, .call { callee := (.builtin .len), args := #[(.tmp 11)], argTypes := #[22] }, (some (some 10, false))⟩,
   ⟨some 13, .fieldAddr 24 (.tmp 2) 0, (some (some 10, false))⟩,
   ⟨some 14, .load 22 (.tmp 13), (some (some 10, false))⟩,
   ⟨some 15, .call { callee := (.builtin .len), args := #[(.tmp 14)], argTypes := #[22] }, (some (some 10, false))⟩,
   ⟨some 16, .binOp .neq 3 (.tmp 12) (.tmp 15) 3, (some (some 10, false))⟩,
   ⟨some 17, .pick (.tmp 10) (.const (.bool true)) (.tmp 16), none⟩]
@[go_sem] def r22_3 : List SOp := [
   ⟨some 4, .assign (.const (.bool false)), none⟩]
def c22_4 : SC := .seq (.reg r22_3 [1, 2, 4]) .ret
def c22_5 : SC := .cond (.tmp 17) c22_4 .skip
def c22_6 : SC := .seq (.reg r22_2 [1, 2, 4, 17]) c22_5
@[go_sem] def r22_7 : List SOp := [
   ⟨some 18, .move (.tmp 1), none⟩,
   ⟨some 19, .call { callee := (.builtin .len), args := #[(.tmp 18)], argTypes := #[22] }, none⟩,
   ⟨some 20, .move (.const (.int .i64 0)), none⟩]
@[go_sem] def r22_8 : List SOp := [
   ⟨some 21, .binOp .lss 3 (.tmp 20) (.tmp 19) 3, none⟩]
def c22_9 : SC := .cond (.tmp 21) .skip (.exit 0)
@[go_sem] def r22_10 : List SOp := [
   ⟨some 22, .move (.tmp 20), none⟩,
   ⟨some 23, .indexAddr 22 (.tmp 18) (.tmp 20), none⟩,
   ⟨some 24, .load 3 (.tmp 23), none⟩,
   ⟨some 5, .assign (.tmp 22), none⟩,
   ⟨some 6, .assign (.tmp 24), none⟩]
@[go_sem] def r22_11 : List SOp := [
   ⟨some 25, .move (.tmp 6), none⟩,
   ⟨some 26, .fieldAddr 24 (.tmp 2) 0, none⟩,
   ⟨some 27, .load 22 (.tmp 26), none⟩,
   ⟨some 28, .move (.tmp 5), none⟩,
   ⟨some 29, .indexAddr 22 (.tmp 27) (.tmp 28), none⟩,
   ⟨some 30, .load 3 (.tmp 29), none⟩,
   ⟨some 31, .binOp .lss 3 (.tmp 25) (.tmp 30) 3, none⟩,
   ⟨some 32, .move (.tmp 31), none⟩,
   ⟨some 33, .move (.tmp 6), (some (some 32, false))⟩,
   ⟨some 34, .fieldAddr 24 (.tmp 2) 1, (some (some 32, false))⟩,
   ⟨some 35, .load 22 (.tmp 34), (some (some 32, false))⟩,
   ⟨some 36, .move (.tmp 5), (some (some 32, false))⟩,
   ⟨some 37, .indexAddr 22 (.tmp 35) (.tmp 36), (some (some 32, false))⟩,
   ⟨some 38, .load 3 (.tmp 37), (some (some 32, false))⟩,
   ⟨some 39, .binOp .gtr 3 (.tmp 33) (.tmp 38) 3, (some (some 32, false))⟩,
   ⟨some 40, .pick (.tmp 32) (.const (.bool true)) (.tmp 39), none⟩]
@[go_sem] def r22_12 : List SOp := [
   ⟨some 4, .assign (.const (.bool false)), none⟩]
def c22_13 : SC := .seq (.reg r22_12 [2, 4, 18, 19, 20]) .ret
def c22_14 : SC := .cond (.tmp 40) c22_13 .skip
def c22_15 : SC := .seq (.reg r22_11 [2, 4, 18, 19, 20, 40]) c22_14
def c22_16 : SC := .seq (.reg r22_10 [2, 4, 5, 6, 18, 19, 20]) c22_15
@[go_sem] def r22_17 : List SOp := [
   ⟨some 41, .binOp .add 3 (.tmp 20) (.const (.int .i64 1)) 3, none⟩,
   ⟨some 20, .move (.tmp 41), none⟩]
def c22_18 : SC := .seq (.block 1 c22_16) (.reg r22_17 [2, 4, 18, 19, 20])
def c22_19 : SC := .seq c22_9 c22_18
def c22_20 : SC := .seq (.reg r22_8 [2, 4, 18, 19, 20, 21]) c22_19
def c22_21 : SC := .seq (.reg r22_7 [2, 4, 18, 19, 20]) (.block 0 (.loop c22_20))
@[go_sem] def r22_22 : List SOp := [
   ⟨some 4, .assign (.const (.bool true)), none⟩]
def c22_23 : SC := .seq (.reg r22_22 [4]) .ret
def c22_24 : SC := .seq c22_21 c22_23
def c22_25 : SC := .seq c22_6 c22_24
def c22_26 : SC := .seq (.reg r22_1 [1, 2, 4]) c22_25
def c22 : SC := c22_26
noncomputable def X22 (M : Mem) : Fx := ⟨Try.prog, T, 42, 22, [(.tmp 4)], [], [], M, none⟩
section
variable (M : Mem)
@[go_sem] theorem X22.P : (X22 M).P = Try.prog := rfl
@[go_sem] theorem X22.T : (X22 M).T = T := rfl
@[go_sem] theorem X22.N : (X22 M).N = 42 := rfl
@[go_sem] theorem X22.rs : (X22 M).rs = [(.tmp 4)] := rfl
@[go_sem] theorem X22.own : (X22 M).own = [] := rfl
@[go_sem] theorem X22.M0 : (X22 M).M0 = M := rfl
@[go_sem] theorem X22.ro : (X22 M).ro = none := rfl
end
theorem k22 : (Try.f22.name == "runtime.NumGoroutine") = false ∧ Try.f22.ntmps = 42 ∧ Try.f22.results.toList = [(.tmp 4)] ∧ okC (X22 fun _ => none) ((Try.f22.body).getD .skip) = true ∧ c22.bare = slim (X22 fun _ => none) ((Try.f22.body).getD .skip) := ⟨by kernel_rfl, by kernel_rfl, by kernel_rfl, by kernel_rfl, by kernel_rfl⟩
theorem a22 {al : List AV} {M : Mem} {Q : AV → Mem → Prop} (hN : al.length ≤ 42) (h : SRuns (X22 M) [.code c22] (lk (num 0 al)) M [] Q) : ACalls Try.prog 22 al M Q := ACalls.of_slim c22 [] [] (tabOf_ok _) Try.func22 (by kernel_rfl : Try.f22.body = some ((Try.f22.body).getD .skip)) 42 [(.tmp 4)] k22 hN h

-- antiquary/antiquaryref06.Has
noncomputable def X23 (M : Mem) : Fx := ⟨Try.prog, T, 45, 23, [(.tmp 4)], [], [], M, none⟩
section
variable (M : Mem)
@[go_sem] theorem X23.P : (X23 M).P = Try.prog := rfl
@[go_sem] theorem X23.T : (X23 M).T = T := rfl
@[go_sem] theorem X23.N : (X23 M).N = 45 := rfl
@[go_sem] theorem X23.rs : (X23 M).rs = [(.tmp 4)] := rfl
@[go_sem] theorem X23.own : (X23 M).own = [] := rfl
@[go_sem] theorem X23.M0 : (X23 M).M0 = M := rfl
@[go_sem] theorem X23.ro : (X23 M).ro = none := rfl
end
-- antiquary/box.Valid
@[go_sem] def r24_1 : List SOp := [
   ⟨some 1, .box 24 (.tmp 0), none⟩,
   ⟨some 2, .alloc 4, none⟩]
@[go_sem] def r24_2 : List SOp := [
   ⟨some 5, .fieldAddr 24 (.tmp 1) 0, none⟩,
   ⟨some 6, .load 22 (.tmp 5), none⟩,
   ⟨some 7, .call { callee := (.value (.func 55)), args := #[(.tmp 6)], argTypes := #[22] }, none⟩,
   ⟨some 8, .unOp .not 4 (.tmp 7), none⟩,
   ⟨some 9, .move (.tmp 8), none⟩,
   ⟨some 10, .fieldAddr 24 (.tmp 1) 1, (some (some 9, false))⟩,
   ⟨some 11, .load 22 (.tmp 10), (some (some 9, false))⟩,
   ⟨some 12, .call { callee := (.value (.func 55)), args := #[(.tmp 11)], argTypes := #[22] }, (some (some 9, false))⟩,
   ⟨some 13, .unOp .not 4 (.tmp 12), (some (some 9, false))⟩,
   ⟨some 14, .pick (.tmp 9) (.const (.bool true)) (.tmp 13), none⟩,
   ⟨some 15, .move (.tmp 14), none⟩,
   ⟨some 16, .fieldAddr 24 (.tmp 1) 0, (some (some 15, false))⟩,
   ⟨some 17, .load 22 (.tmp 16), (some (some 15, false))⟩,
   ⟨some 18, .call { callee := (.builtin .len), args := #[(.tmp 17)], argTypes := #[22] }, (some (some 15, false))⟩,
   ⟨some 19, .fieldAddr 24 (.tmp 1) 1, (some (some 15, false))⟩,
   ⟨some 20, .load 22 (.tmp 19), (some (some 15, false))⟩,
   ⟨some 21, .call { callee := (.builtin .len), args := #[(.tmp 20)], argTypes := #[22] }, (some (some 15, false))⟩,
   ⟨some 22, .binOp .neq 3 (.tmp 18) (.tmp 21) 3, (some (some 15, false))⟩,
   ⟨some 23, .pick (.tmp 15) (.const (.bool true)) (.tmp 22), none⟩]
@[go_sem] def r24_3 : List SOp := [
   ⟨none, .store 4 (.tmp 2) (.const (.bool false)), none⟩]
def c24_4 : SC := .seq (.reg r24_3 [1, 2]) .ret
def c24_5 : SC := .cond (.tmp 23) c24_4 .skip
def c24_6 : SC := .seq (.reg r24_2 [1, 2, 23]) c24_5
@[go_sem] def r24_7 : List SOp := [
   ⟨some 24, .fieldAddr 24 (.tmp 1) 0, none⟩,
   ⟨some 25, .load 22 (.tmp 24), none⟩,
   ⟨some 26, .fieldAddr 24 (.tmp 1) 1, none⟩,
   ⟨some 27, .load 22 (.tmp 26), none⟩,
   ⟨some 28, .call { callee := (.value (.func 56)), args := #[(.tmp 25), (.tmp 27)], argTypes := #[22, 22] }, none⟩]
@[go_sem] def r24_8 : List SOp := [
   ⟨some 3, .assign (.tmp 29), none⟩]
@[go_sem] def r24_9 : List SOp := [
   ⟨some 4, .assign (.tmp 30), none⟩]
def c24_10 : SC := .seq (.reg r24_8 [2, 3, 30]) (.reg r24_9 [2, 3, 4])
@[go_sem] def r24_11 : List SOp := [
   ⟨some 31, .move (.tmp 3), none⟩,
   ⟨some 32, .move (.tmp 4), none⟩,
   ⟨some 33, .binOp .gtr 3 (.tmp 31) (.tmp 32) 3, none⟩]
@[go_sem] def r24_12 : List SOp := [
   ⟨none, .store 4 (.tmp 2) (.const (.bool false)), none⟩]
def c24_13 : SC := .seq (.reg r24_12 [2]) .ret
def c24_14 : SC := .cond (.tmp 33) c24_13 .skip
def c24_15 : SC := .seq (.reg r24_11 [2, 33]) c24_14
def c24_16 : SC := .range (.tmp 28) #[29, 30] c24_10 (.block 1 c24_15)
def c24_17 : SC := .seq (.reg r24_7 [2, 28]) (.block 0 c24_16)
@[go_sem] def r24_18 : List SOp := [
   ⟨none, .store 4 (.tmp 2) (.const (.bool true)), none⟩]
def c24_19 : SC := .seq (.reg r24_18 [2]) .ret
def c24_20 : SC := .seq c24_17 c24_19
def c24_21 : SC := .seq c24_6 c24_20
def c24_22 : SC := .seq (.reg r24_1 [1, 2]) c24_21
def c24 : SC := c24_22
noncomputable def X24 (M : Mem) : Fx := ⟨Try.prog, T, 34, 24, [(.cell 2 4)], [], [], M, none⟩
section
variable (M : Mem)
@[go_sem] theorem X24.P : (X24 M).P = Try.prog := rfl
@[go_sem] theorem X24.T : (X24 M).T = T := rfl
@[go_sem] theorem X24.N : (X24 M).N = 34 := rfl
@[go_sem] theorem X24.rs : (X24 M).rs = [(.cell 2 4)] := rfl
@[go_sem] theorem X24.own : (X24 M).own = [] := rfl
@[go_sem] theorem X24.M0 : (X24 M).M0 = M := rfl
@[go_sem] theorem X24.ro : (X24 M).ro = none := rfl
end
theorem k24 : (Try.f24.name == "runtime.NumGoroutine") = false ∧ Try.f24.ntmps = 34 ∧ Try.f24.results.toList = [(.cell 2 4)] ∧ okC (X24 fun _ => none) ((Try.f24.body).getD .skip) = true ∧ c24.bare = slim (X24 fun _ => none) ((Try.f24.body).getD .skip) := ⟨by kernel_rfl, by kernel_rfl, by kernel_rfl, by kernel_rfl, by kernel_rfl⟩
theorem a24 {al : List AV} {M : Mem} {Q : AV → Mem → Prop} (hN : al.length ≤ 34) (h : SRuns (X24 M) [.code c24] (lk (num 0 al)) M [] Q) : ACalls Try.prog 24 al M Q := ACalls.of_slim c24 [] [] (tabOf_ok _) Try.func24 (by kernel_rfl : Try.f24.body = some ((Try.f24.body).getD .skip)) 34 [(.cell 2 4)] k24 hN h

-- antiquary/antiquaryref06.Vector
noncomputable def X25 (M : Mem) : Fx := ⟨Try.prog, T, 30, 25, [(.tmp 2)], [], [], M, none⟩
section
variable (M : Mem)
@[go_sem] theorem X25.P : (X25 M).P = Try.prog := rfl
@[go_sem] theorem X25.T : (X25 M).T = T := rfl
@[go_sem] theorem X25.N : (X25 M).N = 30 := rfl
@[go_sem] theorem X25.rs : (X25 M).rs = [(.tmp 2)] := rfl
@[go_sem] theorem X25.own : (X25 M).own = [] := rfl
@[go_sem] theorem X25.M0 : (X25 M).M0 = M := rfl
@[go_sem] theorem X25.ro : (X25 M).ro = none := rfl
end
-- antiquary/antiquaryref06.Metric
noncomputable def X26 (M : Mem) : Fx := ⟨Try.prog, T, 9, 26, [(.tmp 2)], [], [], M, none⟩
section
variable (M : Mem)
@[go_sem] theorem X26.P : (X26 M).P = Try.prog := rfl
@[go_sem] theorem X26.T : (X26 M).T = T := rfl
@[go_sem] theorem X26.N : (X26 M).N = 9 := rfl
@[go_sem] theorem X26.rs : (X26 M).rs = [(.tmp 2)] := rfl
@[go_sem] theorem X26.own : (X26 M).own = [] := rfl
@[go_sem] theorem X26.M0 : (X26 M).M0 = M := rfl
@[go_sem] theorem X26.ro : (X26 M).ro = none := rfl
end
-- antiquary/antiquarylaw06.inner
@[go_sem] def r27_1 : List SOp := [
   ⟨some 2, .box 24 (.tmp 0), none⟩,
   ⟨some 4, .assign (.const (.slice none 0 0)), none⟩]
@[go_sem] def r27_2 : List SOp := [
   ⟨some 5, .assign (.const (.slice none 0 0)), none⟩]
@[go_sem] def r27_3 : List SOp := [
   ⟨some 6, .assign (.const (.int .i64 0)), none⟩]
@[go_sem] def r27_4 : List SOp := [
   ⟨some 8, .move (.tmp 6), none⟩,
   ⟨some 9, .fieldAddr 24 (.tmp 2) 0, none⟩,
   ⟨some 10, .load 22 (.tmp 9), none⟩,
   ⟨some 11, .call { callee := (.builtin .len), args := #[(.tmp 10)], argTypes := #[22] }, none⟩,
   ⟨some 12, .binOp .lss 3 (.tmp 8) (.tmp 11) 3, none⟩]
def c27_5 : SC := .cond (.tmp 12) .skip (.exit 0)
def c27_6 : SC := .seq (.reg r27_4 [1, 2, 4, 5, 6, 12]) c27_5
@[go_sem] def r27_7 : List SOp := [
   ⟨some 7, .assign (.const (.int .i64 0)), none⟩]
@[go_sem] def r27_8 : List SOp := [
   ⟨some 15, .move (.tmp 6), none⟩,
   ⟨some 16, .move (.tmp 1), none⟩,
   ⟨some 17, .call { callee := (.builtin .len), args := #[(.tmp 16)], argTypes := #[48] }, none⟩,
   ⟨some 18, .binOp .lss 3 (.tmp 15) (.tmp 17) 3, none⟩]
@[go_sem] def r27_9 : List SOp := [
   ⟨some 19, .move (.tmp 1), none⟩,
   ⟨some 20, .move (.tmp 6), none⟩,
   ⟨some 21, .indexAddr 48 (.tmp 19) (.tmp 20), none⟩,
   ⟨some 22, .load 84 (.tmp 21), none⟩,
   ⟨some 23, .convert 84 3 (.tmp 22), none⟩,
   ⟨some 7, .assign (.tmp 23), none⟩]
def c27_10 : SC := .cond (.tmp 18) (.reg r27_9 [1, 2, 4, 5, 6, 7]) .skip
def c27_11 : SC := .seq (.reg r27_8 [1, 2, 4, 5, 6, 7, 18]) c27_10
@[go_sem] def r27_12 : List (SOp × List Nat) := [
   (⟨some 24, .move (.tmp 5), none⟩, [1, 2, 3, 4, 5, 6, 7, 8, 9, 10, 11, 12, 13, 14, 15, 16, 17, 18, 19, 20, 21]),
   (⟨some 25, .fieldAddr 24 (.tmp 2) 0, none⟩, [0, 3, 6, 7, 8, 9, 10, 11, 12, 13, 14, 15, 16, 17, 18, 19]),
   (⟨some 26, .load 22 (.tmp 25), none⟩, [0, 3, 6, 7, 8, 9, 10, 11, 12, 13, 14, 15, 16, 17, 18, 19]),
   (⟨some 27, .move (.tmp 6), none⟩, [0, 1, 2, 6, 7, 8, 9, 10, 11, 12, 13, 14, 15, 16, 17, 18, 19]),
   (⟨some 28, .indexAddr 22 (.tmp 26) (.tmp 27), none⟩, [0, 6, 7, 8, 9, 10, 11, 12, 13, 14, 15, 16, 17, 18, 19]),
   (⟨some 29, .load 3 (.tmp 28), none⟩, [0, 6, 7, 8, 9, 10, 11, 12, 13, 14, 15, 16, 17, 18, 19]),
   (⟨some 30, .move (.tmp 7), none⟩, [0, 1, 2, 3, 4, 5, 7, 8, 9, 10, 11, 12, 13, 14, 15, 16, 17, 18]),
   (⟨some 31, .fieldAddr 24 (.tmp 2) 1, none⟩, [0, 1, 2, 3, 4, 5, 6, 9, 12, 13, 14, 15, 16]),
   (⟨some 32, .load 22 (.tmp 31), none⟩, [0, 1, 2, 3, 4, 5, 6, 9, 12, 13, 14, 15, 16]),
   (⟨some 33, .move (.tmp 6), none⟩, [0, 1, 2, 3, 4, 5, 6, 7, 8, 12, 13, 14, 15, 16]),
   (⟨some 34, .indexAddr 22 (.tmp 32) (.tmp 33), none⟩, [0, 1, 2, 3, 4, 5, 6, 12, 13, 14, 15, 16]),
   (⟨some 35, .load 3 (.tmp 34), none⟩, [0, 1, 2, 3, 4, 5, 6, 12, 13, 14, 15, 16]),
   (⟨some 36, .fieldAddr 24 (.tmp 2) 0, none⟩, [0, 1, 2, 3, 4, 5, 6, 7, 8, 9, 10, 11, 14]),
   (⟨some 37, .load 22 (.tmp 36), none⟩, [0, 1, 2, 3, 4, 5, 6, 7, 8, 9, 10, 11, 14]),
   (⟨some 38, .move (.tmp 6), none⟩, [0, 1, 2, 3, 4, 5, 6, 7, 8, 9, 10, 11, 12, 13]),
   (⟨some 39, .indexAddr 22 (.tmp 37) (.tmp 38), none⟩, [0, 1, 2, 3, 4, 5, 6, 7, 8, 9, 10, 11]),
   (⟨some 40, .load 3 (.tmp 39), none⟩, [0, 1, 2, 3, 4, 5, 6, 7, 8, 9, 10, 11]),
   (⟨some 41, .binOp .sub 3 (.tmp 35) (.tmp 40) 3, none⟩, [0, 1, 2, 3, 4, 5, 6]),
   (⟨some 42, .binOp .add 3 (.tmp 41) (.const (.int .i64 1)) 3, none⟩, [0, 1, 2, 3, 4, 5, 6]),
   (⟨some 43, .binOp .rem 3 (.tmp 30) (.tmp 42) 3, none⟩, [0, 1, 2, 3, 4, 5]),
   (⟨some 44, .binOp .add 3 (.tmp 29) (.tmp 43) 3, none⟩, [0]),
   (⟨some 45, .buildSlice 22 1 #[(0, (.tmp 44))], none⟩, [0]),
   (⟨some 46, .call { callee := (.builtin .append), args := #[(.tmp 24), (.tmp 45)], argTypes := #[22, 22] }, none⟩, []),
   (⟨some 5, .assign (.tmp 46), none⟩, [])]
def c27_13 : SC := .seq c27_11 (.draw r27_12 [1, 2, 4, 5, 6])
def c27_14 : SC := .seq (.reg r27_7 [1, 2, 4, 5, 6, 7]) c27_13
@[go_sem] def r27_15 : List SOp := [
   ⟨some 13, .move (.tmp 6), none⟩,
   ⟨some 14, .binOp .add 3 (.tmp 13) (.const (.int .i64 1)) 3, none⟩,
   ⟨some 6, .assign (.tmp 14), none⟩]
def c27_16 : SC := .seq (.block 1 c27_14) (.reg r27_15 [1, 2, 4, 5, 6])
def c27_17 : SC := .seq c27_6 c27_16
def c27_18 : SC := .seq (.reg r27_3 [1, 2, 4, 5, 6]) (.block 0 (.loop c27_17))
@[go_sem] def r27_19 : List SOp := [
   ⟨some 47, .move (.tmp 5), none⟩,
   ⟨some 4, .assign (.tmp 47), none⟩]
def c27_20 : SC := .seq (.reg r27_19 [4]) .ret
def c27_21 : SC := .seq c27_18 c27_20
def c27_22 : SC := .seq (.reg r27_2 [1, 2, 4, 5]) c27_21
def c27_23 : SC := .seq (.reg r27_1 [1, 2, 4]) c27_22
def c27 : SC := c27_23
noncomputable def X27 (M : Mem) : Fx := ⟨Try.prog, T, 48, 27, [(.tmp 4)], [], [], M, none⟩
section
variable (M : Mem)
@[go_sem] theorem X27.P : (X27 M).P = Try.prog := rfl
@[go_sem] theorem X27.T : (X27 M).T = T := rfl
@[go_sem] theorem X27.N : (X27 M).N = 48 := rfl
@[go_sem] theorem X27.rs : (X27 M).rs = [(.tmp 4)] := rfl
@[go_sem] theorem X27.own : (X27 M).own = [] := rfl
@[go_sem] theorem X27.M0 : (X27 M).M0 = M := rfl
@[go_sem] theorem X27.ro : (X27 M).ro = none := rfl
end
theorem k27 : (Try.f27.name == "runtime.NumGoroutine") = false ∧ Try.f27.ntmps = 48 ∧ Try.f27.results.toList = [(.tmp 4)] ∧ okC (X27 fun _ => none) ((Try.f27.body).getD .skip) = true ∧ c27.bare = slim (X27 fun _ => none) ((Try.f27.body).getD .skip) := ⟨by kernel_rfl, by kernel_rfl, by kernel_rfl, by kernel_rfl, by kernel_rfl⟩
theorem a27 {al : List AV} {M : Mem} {Q : AV → Mem → Prop} (hN : al.length ≤ 48) (h : SRuns (X27 M) [.code c27] (lk (num 0 al)) M [] Q) : ACalls Try.prog 27 al M Q := ACalls.of_slim c27 [] [] (tabOf_ok _) Try.func27 (by kernel_rfl : Try.f27.body = some ((Try.f27.body).getD .skip)) 48 [(.tmp 4)] k27 hN h

-- antiquary/antiquaryref06.Key
noncomputable def X28 (M : Mem) : Fx := ⟨Try.prog, T, 53, 28, [(.tmp 6)], [], [], M, none⟩
section
variable (M : Mem)
@[go_sem] theorem X28.P : (X28 M).P = Try.prog := rfl
@[go_sem] theorem X28.T : (X28 M).T = T := rfl
@[go_sem] theorem X28.N : (X28 M).N = 53 := rfl
@[go_sem] theorem X28.rs : (X28 M).rs = [(.tmp 6)] := rfl
@[go_sem] theorem X28.own : (X28 M).own = [] := rfl
@[go_sem] theorem X28.M0 : (X28 M).M0 = M := rfl
@[go_sem] theorem X28.ro : (X28 M).ro = none := rfl
end
-- antiquary/box.Meet
@[go_sem] def r29_1 : List SOp := [
   ⟨some 2, .box 24 (.tmp 0), none⟩,
   ⟨some 3, .box 24 (.tmp 1), none⟩,
   ⟨some 4, .alloc 24, none⟩,
   ⟨some 5, .assign (.const (.bool false)), none⟩,
   ⟨some 6, .assign (.const (.int .i64 0)), none⟩]
@[go_sem] def r29_2 : List SOp := [
   ⟨some 8, .load 24 (.tmp 2), none⟩,
   ⟨some 9, .load 24 (.tmp 3), none⟩,
   ⟨some 10, .call { callee := (.value (.func 44)), args := #[(.tmp 8), (.tmp 9)], argTypes := #[24, 24] }, none⟩,
   ⟨some 11, .unOp .not 4 (.tmp 10), none⟩]
@[go_sem] def r29_3 : List SOp := [
   ⟨some 12, .build 24 #[], none⟩,
   ⟨none, .store 24 (.tmp 4) (.tmp 12), none⟩,
   ⟨some 5, .assign (.const (.bool false)), none⟩,
   ⟨some 6, .assign (.const (.int .i64 1)), none⟩]
def c29_4 : SC := .seq (.reg r29_3 [2, 3, 4, 5, 6]) .ret
def c29_5 : SC := .cond (.tmp 11) c29_4 .skip
def c29_6 : SC := .seq (.reg r29_2 [2, 3, 4, 5, 6, 11]) c29_5
@[go_sem] def r29_7 : List (SOp × List Nat) := [
   (⟨some 13, .fieldAddr 24 (.tmp 2) 0, none⟩, [2, 3, 5, 6, 7, 8, 11]),
   (⟨some 14, .load 22 (.tmp 13), none⟩, [2, 3, 5, 6, 7, 8, 11]),
   (⟨some 15, .fieldAddr 24 (.tmp 3) 0, none⟩, [0, 1, 5, 6, 7, 8, 11]),
   (⟨some 16, .load 22 (.tmp 15), none⟩, [0, 1, 5, 6, 7, 8, 11]),
   (⟨some 17, .call { callee := (.value (.func 48)), args := #[(.tmp 14), (.tmp 16), (.func 57)], argTypes := #[22, 22, 77] }, none⟩, [5, 6, 7, 8, 11]),
   (⟨some 18, .fieldAddr 24 (.tmp 2) 1, none⟩, [0, 1, 2, 3, 4, 7, 8, 11]),
   (⟨some 19, .load 22 (.tmp 18), none⟩, [0, 1, 2, 3, 4, 7, 8, 11]),
   (⟨some 20, .fieldAddr 24 (.tmp 3) 1, none⟩, [0, 1, 2, 3, 4, 5, 6, 11]),
   (⟨some 21, .load 22 (.tmp 20), none⟩, [0, 1, 2, 3, 4, 5, 6, 11]),
   (⟨some 22, .call { callee := (.value (.func 48)), args := #[(.tmp 19), (.tmp 21), (.func 58)], argTypes := #[22, 22, 77] }, none⟩, [11]),
   (⟨some 23, .build 24 #[(0, (.tmp 17)), (1, (.tmp 22))], none⟩, [11]),
   (⟨some 7, .alloc 24, none⟩, [0, 1, 2, 3, 4, 5, 6, 7, 8, 9, 10]),
   (⟨none, .store 24 (.tmp 7) (.tmp 23), none⟩, [])]
@[go_sem] def r29_8 : List SOp := [
   ⟨some 24, .load 24 (.tmp 7), none⟩,
   ⟨some 25, .call { callee := (.value (.func 24)), args := #[(.tmp 24)], argTypes := #[24] }, none⟩,
   ⟨some 26, .unOp .not 4 (.tmp 25), none⟩]
@[go_sem] def r29_9 : List SOp := [
   ⟨some 27, .build 24 #[], none⟩,
   ⟨none, .store 24 (.tmp 4) (.tmp 27), none⟩,
   ⟨some 5, .assign (.const (.bool false)), none⟩,
   ⟨some 6, .assign (.const (.int .i64 0)), none⟩]
def c29_10 : SC := .seq (.reg r29_9 [4, 5, 6, 7]) .ret
def c29_11 : SC := .cond (.tmp 26) c29_10 .skip
def c29_12 : SC := .seq (.reg r29_8 [4, 5, 6, 7, 26]) c29_11
@[go_sem] def r29_13 : List SOp := [
   ⟨some 28, .load 24 (.tmp 7), none⟩,
   ⟨none, .store 24 (.tmp 4) (.tmp 28), none⟩,
   ⟨some 5, .assign (.const (.bool true)), none⟩,
   ⟨some 6, .assign (.const (.int .i64 0)), none⟩]
def c29_14 : SC := .seq (.reg r29_13 [4, 5, 6]) .ret
def c29_15 : SC := .seq c29_12 c29_14
def c29_16 : SC := .seq (.draw r29_7 [4, 5, 6, 7]) c29_15
def c29_17 : SC := .seq c29_6 c29_16
def c29_18 : SC := .seq (.reg r29_1 [2, 3, 4, 5, 6]) c29_17
def c29 : SC := c29_18
noncomputable def X29 (M : Mem) : Fx := ⟨Try.prog, T, 29, 29, [(.cell 4 24), (.tmp 5), (.tmp 6)], [], [], M, none⟩
section
variable (M : Mem)
@[go_sem] theorem X29.P : (X29 M).P = Try.prog := rfl
@[go_sem] theorem X29.T : (X29 M).T = T := rfl
@[go_sem] theorem X29.N : (X29 M).N = 29 := rfl
@[go_sem] theorem X29.rs : (X29 M).rs = [(.cell 4 24), (.tmp 5), (.tmp 6)] := rfl
@[go_sem] theorem X29.own : (X29 M).own = [] := rfl
@[go_sem] theorem X29.M0 : (X29 M).M0 = M := rfl
@[go_sem] theorem X29.ro : (X29 M).ro = none := rfl
end
theorem k29 : (Try.f29.name == "runtime.NumGoroutine") = false ∧ Try.f29.ntmps = 29 ∧ Try.f29.results.toList = [(.cell 4 24), (.tmp 5), (.tmp 6)] ∧ okC (X29 fun _ => none) ((Try.f29.body).getD .skip) = true ∧ c29.bare = slim (X29 fun _ => none) ((Try.f29.body).getD .skip) := ⟨by kernel_rfl, by kernel_rfl, by kernel_rfl, by kernel_rfl, by kernel_rfl⟩
theorem a29 {al : List AV} {M : Mem} {Q : AV → Mem → Prop} (hN : al.length ≤ 29) (h : SRuns (X29 M) [.code c29] (lk (num 0 al)) M [] Q) : ACalls Try.prog 29 al M Q := ACalls.of_slim c29 [] [] (tabOf_ok _) Try.func29 (by kernel_rfl : Try.f29.body = some ((Try.f29.body).getD .skip)) 29 [(.cell 4 24), (.tmp 5), (.tmp 6)] k29 hN h

-- antiquary/antiquaryref06.Nearest
noncomputable def X30 (M : Mem) : Fx := ⟨Try.prog, T, 33, 30, [(.tmp 4)], [], [], M, none⟩
section
variable (M : Mem)
@[go_sem] theorem X30.P : (X30 M).P = Try.prog := rfl
@[go_sem] theorem X30.T : (X30 M).T = T := rfl
@[go_sem] theorem X30.N : (X30 M).N = 33 := rfl
@[go_sem] theorem X30.rs : (X30 M).rs = [(.tmp 4)] := rfl
@[go_sem] theorem X30.own : (X30 M).own = [] := rfl
@[go_sem] theorem X30.M0 : (X30 M).M0 = M := rfl
@[go_sem] theorem X30.ro : (X30 M).ro = none := rfl
end
end Go.Proofs.Ytaiinpbaaeemmaa
