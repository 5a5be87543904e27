/-
  The functions of this seat's translation that have a Go text.
-/
import Derived.Test.YtplgpbadpdmeeaaRunAll
import Derived.Test.YtplgpbadpdmeeaaTab
namespace Go.Proofs.Ytplgpbadpdmeeaa.Rn
set_option linter.unusedVariables false
noncomputable def ft : FT := (.node 47 Try.f47 (.node 25 Try.f25 (.node 14 Try.f14 (.node 8 Try.f8 (.node 5 Try.f5 (.node 4 Try.f4 (.node 3 Try.f3 .leaf .leaf) .leaf) (.node 7 Try.f7 (.node 6 Try.f6 .leaf .leaf) .leaf)) (.node 11 Try.f11 (.node 10 Try.f10 (.node 9 Try.f9 .leaf .leaf) .leaf) (.node 13 Try.f13 (.node 12 Try.f12 .leaf .leaf) .leaf))) (.node 20 Try.f20 (.node 17 Try.f17 (.node 16 Try.f16 (.node 15 Try.f15 .leaf .leaf) .leaf) (.node 19 Try.f19 (.node 18 Try.f18 .leaf .leaf) .leaf)) (.node 23 Try.f23 (.node 22 Try.f22 (.node 21 Try.f21 .leaf .leaf) .leaf) (.node 24 Try.f24 .leaf .leaf)))) (.node 36 Try.f36 (.node 31 Try.f31 (.node 28 Try.f28 (.node 27 Try.f27 (.node 26 Try.f26 .leaf .leaf) .leaf) (.node 30 Try.f30 (.node 29 Try.f29 .leaf .leaf) .leaf)) (.node 34 Try.f34 (.node 33 Try.f33 (.node 32 Try.f32 .leaf .leaf) .leaf) (.node 35 Try.f35 .leaf .leaf))) (.node 42 Try.f42 (.node 39 Try.f39 (.node 38 Try.f38 (.node 37 Try.f37 .leaf .leaf) .leaf) (.node 41 Try.f41 (.node 40 Try.f40 .leaf .leaf) .leaf)) (.node 45 Try.f45 (.node 44 Try.f44 (.node 43 Try.f43 .leaf .leaf) .leaf) (.node 46 Try.f46 .leaf .leaf))))) (.node 70 Try.f70 (.node 59 Try.f59 (.node 53 Try.f53 (.node 50 Try.f50 (.node 49 Try.f49 (.node 48 Try.f48 .leaf .leaf) .leaf) (.node 52 Try.f52 (.node 51 Try.f51 .leaf .leaf) .leaf)) (.node 56 Try.f56 (.node 55 Try.f55 (.node 54 Try.f54 .leaf .leaf) .leaf) (.node 58 Try.f58 (.node 57 Try.f57 .leaf .leaf) .leaf))) (.node 65 Try.f65 (.node 62 Try.f62 (.node 61 Try.f61 (.node 60 Try.f60 .leaf .leaf) .leaf) (.node 64 Try.f64 (.node 63 Try.f63 .leaf .leaf) .leaf)) (.node 68 Try.f68 (.node 67 Try.f67 (.node 66 Try.f66 .leaf .leaf) .leaf) (.node 69 Try.f69 .leaf .leaf)))) (.node 81 Try.f81 (.node 76 Try.f76 (.node 73 Try.f73 (.node 72 Try.f72 (.node 71 Try.f71 .leaf .leaf) .leaf) (.node 75 Try.f75 (.node 74 Try.f74 .leaf .leaf) .leaf)) (.node 79 Try.f79 (.node 78 Try.f78 (.node 77 Try.f77 .leaf .leaf) .leaf) (.node 80 Try.f80 .leaf .leaf))) (.node 87 Try.f87 (.node 84 Try.f84 (.node 83 Try.f83 (.node 82 Try.f82 .leaf .leaf) .leaf) (.node 86 Try.f86 (.node 85 Try.f85 .leaf .leaf) .leaf)) (.node 90 Try.f90 (.node 89 Try.f89 (.node 88 Try.f88 .leaf .leaf) .leaf) (.node 91 Try.f91 .leaf .leaf))))))
theorem go3 : Ab.isGo Try.prog 3 = true := by kernel_rfl
theorem go4 : Ab.isGo Try.prog 4 = true := by kernel_rfl
theorem go5 : Ab.isGo Try.prog 5 = true := by kernel_rfl
theorem go6 : Ab.isGo Try.prog 6 = true := by kernel_rfl
theorem go7 : Ab.isGo Try.prog 7 = true := by kernel_rfl
theorem go8 : Ab.isGo Try.prog 8 = true := by kernel_rfl
theorem go9 : Ab.isGo Try.prog 9 = true := by kernel_rfl
theorem go10 : Ab.isGo Try.prog 10 = true := by kernel_rfl
theorem go11 : Ab.isGo Try.prog 11 = true := by kernel_rfl
theorem go12 : Ab.isGo Try.prog 12 = true := by kernel_rfl
theorem go13 : Ab.isGo Try.prog 13 = true := by kernel_rfl
theorem go14 : Ab.isGo Try.prog 14 = true := by kernel_rfl
theorem go15 : Ab.isGo Try.prog 15 = true := by kernel_rfl
theorem go16 : Ab.isGo Try.prog 16 = true := by kernel_rfl
theorem go17 : Ab.isGo Try.prog 17 = true := by kernel_rfl
theorem go18 : Ab.isGo Try.prog 18 = true := by kernel_rfl
theorem go19 : Ab.isGo Try.prog 19 = true := by kernel_rfl
theorem go20 : Ab.isGo Try.prog 20 = true := by kernel_rfl
theorem go21 : Ab.isGo Try.prog 21 = true := by kernel_rfl
theorem go22 : Ab.isGo Try.prog 22 = true := by kernel_rfl
theorem go23 : Ab.isGo Try.prog 23 = true := by kernel_rfl
theorem go24 : Ab.isGo Try.prog 24 = true := by kernel_rfl
theorem go25 : Ab.isGo Try.prog 25 = true := by kernel_rfl
theorem go26 : Ab.isGo Try.prog 26 = true := by kernel_rfl
theorem go27 : Ab.isGo Try.prog 27 = true := by kernel_rfl
theorem go28 : Ab.isGo Try.prog 28 = true := by kernel_rfl
theorem go29 : Ab.isGo Try.prog 29 = true := by kernel_rfl
theorem go30 : Ab.isGo Try.prog 30 = true := by kernel_rfl
theorem go31 : Ab.isGo Try.prog 31 = true := by kernel_rfl
theorem go32 : Ab.isGo Try.prog 32 = true := by kernel_rfl
theorem go33 : Ab.isGo Try.prog 33 = true := by kernel_rfl
theorem go34 : Ab.isGo Try.prog 34 = true := by kernel_rfl
theorem go35 : Ab.isGo Try.prog 35 = true := by kernel_rfl
theorem go36 : Ab.isGo Try.prog 36 = true := by kernel_rfl
theorem go37 : Ab.isGo Try.prog 37 = true := by kernel_rfl
theorem go38 : Ab.isGo Try.prog 38 = true := by kernel_rfl
theorem go39 : Ab.isGo Try.prog 39 = true := by kernel_rfl
theorem go40 : Ab.isGo Try.prog 40 = true := by kernel_rfl
theorem go41 : Ab.isGo Try.prog 41 = true := by kernel_rfl
theorem go42 : Ab.isGo Try.prog 42 = true := by kernel_rfl
theorem go43 : Ab.isGo Try.prog 43 = true := by kernel_rfl
theorem go44 : Ab.isGo Try.prog 44 = true := by kernel_rfl
theorem go45 : Ab.isGo Try.prog 45 = true := by kernel_rfl
theorem go46 : Ab.isGo Try.prog 46 = true := by kernel_rfl
theorem go47 : Ab.isGo Try.prog 47 = true := by kernel_rfl
theorem go48 : Ab.isGo Try.prog 48 = true := by kernel_rfl
theorem go49 : Ab.isGo Try.prog 49 = true := by kernel_rfl
theorem go50 : Ab.isGo Try.prog 50 = true := by kernel_rfl
theorem go51 : Ab.isGo Try.prog 51 = true := by kernel_rfl
theorem go52 : Ab.isGo Try.prog 52 = true := by kernel_rfl
theorem go53 : Ab.isGo Try.prog 53 = true := by kernel_rfl
theorem go54 : Ab.isGo Try.prog 54 = true := by kernel_rfl
theorem go55 : Ab.isGo Try.prog 55 = true := by kernel_rfl
theorem go56 : Ab.isGo Try.prog 56 = true := by kernel_rfl
theorem go57 : Ab.isGo Try.prog 57 = true := by kernel_rfl
theorem go58 : Ab.isGo Try.prog 58 = true := by kernel_rfl
theorem go59 : Ab.isGo Try.prog 59 = true := by kernel_rfl
theorem go60 : Ab.isGo Try.prog 60 = true := by kernel_rfl
theorem go61 : Ab.isGo Try.prog 61 = true := by kernel_rfl
theorem go62 : Ab.isGo Try.prog 62 = true := by kernel_rfl
theorem go63 : Ab.isGo Try.prog 63 = true := by kernel_rfl
theorem go64 : Ab.isGo Try.prog 64 = true := by kernel_rfl
theorem go65 : Ab.isGo Try.prog 65 = true := by kernel_rfl
theorem go66 : Ab.isGo Try.prog 66 = true := by kernel_rfl
theorem go67 : Ab.isGo Try.prog 67 = true := by kernel_rfl
theorem go68 : Ab.isGo Try.prog 68 = true := by kernel_rfl
theorem go69 : Ab.isGo Try.prog 69 = true := by kernel_rfl
theorem go70 : Ab.isGo Try.prog 70 = true := by kernel_rfl
theorem go71 : Ab.isGo Try.prog 71 = true := by kernel_rfl
theorem go72 : Ab.isGo Try.prog 72 = true := by kernel_rfl
theorem go73 : Ab.isGo Try.prog 73 = true := by kernel_rfl
theorem go74 : Ab.isGo Try.prog 74 = true := by kernel_rfl
theorem go75 : Ab.isGo Try.prog 75 = true := by kernel_rfl
theorem go76 : Ab.isGo Try.prog 76 = true := by kernel_rfl
theorem go77 : Ab.isGo Try.prog 77 = true := by kernel_rfl
theorem go78 : Ab.isGo Try.prog 78 = true := by kernel_rfl
theorem go79 : Ab.isGo Try.prog 79 = true := by kernel_rfl
theorem go80 : Ab.isGo Try.prog 80 = true := by kernel_rfl
theorem go81 : Ab.isGo Try.prog 81 = true := by kernel_rfl
theorem go82 : Ab.isGo Try.prog 82 = true := by kernel_rfl
theorem go83 : Ab.isGo Try.prog 83 = true := by kernel_rfl
theorem go84 : Ab.isGo Try.prog 84 = true := by kernel_rfl
theorem go85 : Ab.isGo Try.prog 85 = true := by kernel_rfl
theorem go86 : Ab.isGo Try.prog 86 = true := by kernel_rfl
theorem go87 : Ab.isGo Try.prog 87 = true := by kernel_rfl
theorem go88 : Ab.isGo Try.prog 88 = true := by kernel_rfl
theorem go89 : Ab.isGo Try.prog 89 = true := by kernel_rfl
theorem go90 : Ab.isGo Try.prog 90 = true := by kernel_rfl
theorem go91 : Ab.isGo Try.prog 91 = true := by kernel_rfl
set_option maxRecDepth 100000 in
theorem ftOk : FOk Try.prog ft := (.node Try.func47 go47 (.node Try.func25 go25 (.node Try.func14 go14 (.node Try.func8 go8 (.node Try.func5 go5 (.node Try.func4 go4 (.node Try.func3 go3 (.leaf _) (.leaf _)) (.leaf _)) (.node Try.func7 go7 (.node Try.func6 go6 (.leaf _) (.leaf _)) (.leaf _))) (.node Try.func11 go11 (.node Try.func10 go10 (.node Try.func9 go9 (.leaf _) (.leaf _)) (.leaf _)) (.node Try.func13 go13 (.node Try.func12 go12 (.leaf _) (.leaf _)) (.leaf _)))) (.node Try.func20 go20 (.node Try.func17 go17 (.node Try.func16 go16 (.node Try.func15 go15 (.leaf _) (.leaf _)) (.leaf _)) (.node Try.func19 go19 (.node Try.func18 go18 (.leaf _) (.leaf _)) (.leaf _))) (.node Try.func23 go23 (.node Try.func22 go22 (.node Try.func21 go21 (.leaf _) (.leaf _)) (.leaf _)) (.node Try.func24 go24 (.leaf _) (.leaf _))))) (.node Try.func36 go36 (.node Try.func31 go31 (.node Try.func28 go28 (.node Try.func27 go27 (.node Try.func26 go26 (.leaf _) (.leaf _)) (.leaf _)) (.node Try.func30 go30 (.node Try.func29 go29 (.leaf _) (.leaf _)) (.leaf _))) (.node Try.func34 go34 (.node Try.func33 go33 (.node Try.func32 go32 (.leaf _) (.leaf _)) (.leaf _)) (.node Try.func35 go35 (.leaf _) (.leaf _)))) (.node Try.func42 go42 (.node Try.func39 go39 (.node Try.func38 go38 (.node Try.func37 go37 (.leaf _) (.leaf _)) (.leaf _)) (.node Try.func41 go41 (.node Try.func40 go40 (.leaf _) (.leaf _)) (.leaf _))) (.node Try.func45 go45 (.node Try.func44 go44 (.node Try.func43 go43 (.leaf _) (.leaf _)) (.leaf _)) (.node Try.func46 go46 (.leaf _) (.leaf _)))))) (.node Try.func70 go70 (.node Try.func59 go59 (.node Try.func53 go53 (.node Try.func50 go50 (.node Try.func49 go49 (.node Try.func48 go48 (.leaf _) (.leaf _)) (.leaf _)) (.node Try.func52 go52 (.node Try.func51 go51 (.leaf _) (.leaf _)) (.leaf _))) (.node Try.func56 go56 (.node Try.func55 go55 (.node Try.func54 go54 (.leaf _) (.leaf _)) (.leaf _)) (.node Try.func58 go58 (.node Try.func57 go57 (.leaf _) (.leaf _)) (.leaf _)))) (.node Try.func65 go65 (.node Try.func62 go62 (.node Try.func61 go61 (.node Try.func60 go60 (.leaf _) (.leaf _)) (.leaf _)) (.node Try.func64 go64 (.node Try.func63 go63 (.leaf _) (.leaf _)) (.leaf _))) (.node Try.func68 go68 (.node Try.func67 go67 (.node Try.func66 go66 (.leaf _) (.leaf _)) (.leaf _)) (.node Try.func69 go69 (.leaf _) (.leaf _))))) (.node Try.func81 go81 (.node Try.func76 go76 (.node Try.func73 go73 (.node Try.func72 go72 (.node Try.func71 go71 (.leaf _) (.leaf _)) (.leaf _)) (.node Try.func75 go75 (.node Try.func74 go74 (.leaf _) (.leaf _)) (.leaf _))) (.node Try.func79 go79 (.node Try.func78 go78 (.node Try.func77 go77 (.leaf _) (.leaf _)) (.leaf _)) (.node Try.func80 go80 (.leaf _) (.leaf _)))) (.node Try.func87 go87 (.node Try.func84 go84 (.node Try.func83 go83 (.node Try.func82 go82 (.leaf _) (.leaf _)) (.leaf _)) (.node Try.func86 go86 (.node Try.func85 go85 (.leaf _) (.leaf _)) (.leaf _))) (.node Try.func90 go90 (.node Try.func89 go89 (.node Try.func88 go88 (.leaf _) (.leaf _)) (.leaf _)) (.node Try.func91 go91 (.leaf _) (.leaf _)))))))
theorem runs {fuel : Nat} {f : FuncId} {args : List Value} {v : Value} (h : runF Try.prog Ab.tab ft fuel f args = some v) (w : World) :
    Calls Try.prog f args.toArray w fun x w' => x = .returned v ∧ w'.os = w.os ∧ w'.tape = w.tape ∧ w'.output = w.output ∧ w.heap.size ≤ w'.heap.size ∧ ∀ k, k < w.heap.size → w'.heap[k]? = w.heap[k]? := runF_good Ab.tabOk ftOk Ab.mixed h w
end Go.Proofs.Ytplgpbadpdmeeaa.Rn
