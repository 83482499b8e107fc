/- How a call of each function begins. Printed by a program. -/
import Derived.Test.YtcgjkdfgemjidaaSxT
namespace Go.Proofs.Ytcgjkdfgemjidaa
open Go Go.Sx Go.Proofs
set_option maxRecDepth 100000
theorem cf2 : ∀ args w, (callFunc 2 args).run Try.prog w = .ok (.enter 2 args) w := callFunc_run Try.func2 rfl rfl
theorem cf3 : ∀ args w, (callFunc 3 args).run Try.prog w = .ok (.enter 3 args) w := callFunc_run Try.func3 rfl rfl
theorem cf4 : ∀ args w, (callFunc 4 args).run Try.prog w = .ok (.enter 4 args) w := callFunc_run Try.func4 rfl rfl
theorem cf5 : ∀ args w, (callFunc 5 args).run Try.prog w = .ok (.enter 5 args) w := callFunc_run Try.func5 rfl rfl
theorem cf6 : ∀ args w, (callFunc 6 args).run Try.prog w = .ok (.enter 6 args) w := callFunc_run Try.func6 rfl rfl
theorem cf7 : ∀ args w, (callFunc 7 args).run Try.prog w = .ok (.enter 7 args) w := callFunc_run Try.func7 rfl rfl
theorem cf8 : ∀ args w, (callFunc 8 args).run Try.prog w = .ok (.enter 8 args) w := callFunc_run Try.func8 rfl rfl
theorem cf9 : ∀ args w, (callFunc 9 args).run Try.prog w = .ok (.enter 9 args) w := callFunc_run Try.func9 rfl rfl
theorem cf10 : ∀ args w, (callFunc 10 args).run Try.prog w = .ok (.enter 10 args) w := callFunc_run Try.func10 rfl rfl
theorem cf11 : ∀ args w, (callFunc 11 args).run Try.prog w = .ok (.enter 11 args) w := callFunc_run Try.func11 rfl rfl
theorem cf12 : ∀ args w, (callFunc 12 args).run Try.prog w = .ok (.enter 12 args) w := callFunc_run Try.func12 rfl rfl
theorem cf13 : ∀ args w, (callFunc 13 args).run Try.prog w = .ok (.enter 13 args) w := callFunc_run Try.func13 rfl rfl
theorem cf14 : ∀ args w, (callFunc 14 args).run Try.prog w = .ok (.enter 14 args) w := callFunc_run Try.func14 rfl rfl
theorem cf15 : ∀ args w, (callFunc 15 args).run Try.prog w = .ok (.enter 15 args) w := callFunc_run Try.func15 rfl rfl
theorem cf16 : ∀ args w, (callFunc 16 args).run Try.prog w = .ok (.enter 16 args) w := callFunc_run Try.func16 rfl rfl
theorem cf17 : ∀ args w, (callFunc 17 args).run Try.prog w = .ok (.enter 17 args) w := callFunc_run Try.func17 rfl rfl
theorem cf18 : ∀ args w, (callFunc 18 args).run Try.prog w = .ok (.enter 18 args) w := callFunc_run Try.func18 rfl rfl
theorem cf19 : ∀ args w, (callFunc 19 args).run Try.prog w = .ok (.enter 19 args) w := callFunc_run Try.func19 rfl rfl
theorem cf20 : ∀ args w, (callFunc 20 args).run Try.prog w = .ok (.enter 20 args) w := callFunc_run Try.func20 rfl rfl
theorem cf21 : ∀ args w, (callFunc 21 args).run Try.prog w = .ok (.enter 21 args) w := callFunc_run Try.func21 rfl rfl
theorem cf22 : ∀ args w, (callFunc 22 args).run Try.prog w = .ok (.enter 22 args) w := callFunc_run Try.func22 rfl rfl
theorem cf23 : ∀ args w, (callFunc 23 args).run Try.prog w = .ok (.enter 23 args) w := callFunc_run Try.func23 rfl rfl
end Go.Proofs.Ytcgjkdfgemjidaa
