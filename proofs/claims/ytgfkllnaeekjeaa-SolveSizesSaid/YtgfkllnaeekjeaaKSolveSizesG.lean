/-
  Parts of the proof, one behind the other:
  ITEMS THAT MAY BE: what solve.Right and the document's Right answer, for every item.
  solve.Sizes, the walk.
  solve.Sizes: what it answers.
-/
import Derived.Test.YtgfkllnaeekjeaaKSolveSizesF
set_option linter.unusedVariables false
set_option linter.unusedSimpArgs false
set_option linter.unusedSectionVars false
namespace Go.Proofs.Ytgfkllnaeekjeaa
open Go.Lift
set_option maxRecDepth 1000000
def rightB(k n d mn mx:Int):Bool:=decide (0≤mn∧mn≤4096∧(mx=0∨(1≤mx∧mx≤4096∧mn≤mx)) ∧
  ((k=0∧n=0∧d=0)∨(k=1∧0≤n∧n≤4096∧d=0)∨(k=2∧0≤n∧n≤1000∧1≤d∧d≤1000)∨(k=3∧1≤n∧n≤1000∧d=0)))
def withinB(n a b:Int):Bool:=decide (a≤n∧n≤b)
theorem within_does_0(n a b:Int)(c0:n≥a)(c1:n≤b) :
    FDoes Try.prog 32 [zqI n,zqI a,zqI b] (⟨0,.nil⟩) (AVal.bool true) (AHeap.rows 10 []) :=
  pcall_does env_ok mixed (hs:= [.val 1002 (.bool true),.val 1006 (.bool true)]) (rs:= []) (by kernel_rfl) (All.cons (okT c0) (All.cons (okT c1) (All.nil)))
theorem within_does_1(n a b:Int)(c0:n≥a)(c1: ¬ (n≤b)) :
    FDoes Try.prog 32 [zqI n,zqI a,zqI b] (⟨0,.nil⟩) (AVal.bool false) (AHeap.rows 10 []) :=
  pcall_does env_ok mixed (hs:= [.val 1002 (.bool true),.val 1006 (.bool false)]) (rs:= []) (by kernel_rfl) (All.cons (okT c0) (All.cons (okF c1) (All.nil)))
theorem within_does_2(n a b:Int)(c0: ¬ (n≥a)) :
    FDoes Try.prog 32 [zqI n,zqI a,zqI b] (⟨0,.nil⟩) (AVal.bool false) (AHeap.rows 10 []) :=
  pcall_does env_ok mixed (hs:= [.val 1002 (.bool false)]) (rs:= []) (by kernel_rfl) (All.cons (okF c0) (All.nil))
theorem within_does(n a b:Int)(H:AHeap):FDoes Try.prog 32 [.int .i64 n,.int .i64 a,.int .i64 b] H (.bool (withinB n a b)) H:=by
  have ha: ∀ z9∈([.int .i64 n,.int .i64 a,.int .i64 b]:List AVal),Bare z9:=by simp [Bare,AVal.ren,AVal.rens,Clo,Clos]
  by_cases c0:n≥a
  · skip
    by_cases c1:n≤b
    · skip
      have hp:=within_does_0 n a b c0 c1
      have e:withinB n a b=true:=by simp only [withinB,decide_eq_true_eq];omega
      rw [e];exact hp.bare ha (Bare.bool _) H
    · skip
      have hp:=within_does_1 n a b c0 c1
      have e:withinB n a b=false:=by simp only [withinB,decide_eq_false_iff_not];omega
      rw [e];exact hp.bare ha (Bare.bool _) H
  · skip
    have hp:=within_does_2 n a b c0
    have e:withinB n a b=false:=by simp only [withinB,decide_eq_false_iff_not];omega
    rw [e];exact hp.bare ha (Bare.bool _) H
section
variable(k n d mn mx:Int)
include k n d mn mx
theorem right_does_0(c0:mn<0) :
    FDoes Try.prog 12 [zqA k n d mn mx] (⟨0,.nil⟩) (AVal.bool false) (AHeap.rows 29 [(0,.made [zqA k n d mn mx] 5 true)]) :=
  pcall_does env_ok mixed (hs:= [.val 1002 (.bool true)]) (rs:= []) (by kernel_rfl) (All.cons (okT c0) (All.nil))
section
variable(c0: ¬ (mn<0))
include c0
theorem right_does_1(c1:mn>4096) :
    FDoes Try.prog 12 [zqA k n d mn mx] (⟨0,.nil⟩) (AVal.bool false) (AHeap.rows 29 [(0,.made [zqA k n d mn mx] 5 true)]) :=
  pcall_does env_ok mixed (hs:= [.val 1002 (.bool false),.val 1006 (.bool true)]) (rs:= []) (by kernel_rfl) (All.cons (okF c0) (All.cons (okT c1) (All.nil)))
section
variable(c1: ¬ (mn>4096))
include c1
section
variable(c2: ¬ (mx=0))
include c2
theorem right_does_2(c3:mx<if 1>mn then 1 else mn) :
    FDoes Try.prog 12 [zqA k n d mn mx] (⟨0,.nil⟩) (AVal.bool false) (AHeap.rows 29 [(0,.made [zqA k n d mn mx] 5 true)]) :=
  pcall_does env_ok mixed (hs:= [.val 1002 (.bool false),.val 1006 (.bool false),.val 1011 (.bool true),.val 1018 (.bool true)]) (rs:= []) (by kernel_rfl) (All.cons (okF c0) (All.cons (okF c1) (All.cons (neT c2) (All.cons (okT c3) (All.nil)))))
section
variable(c3: ¬ (mx<if 1>mn then 1 else mn))
include c3
theorem right_does_3(c4:mx>4096) :
    FDoes Try.prog 12 [zqA k n d mn mx] (⟨0,.nil⟩) (AVal.bool false) (AHeap.rows 29 [(0,.made [zqA k n d mn mx] 5 true)]) :=
  pcall_does env_ok mixed (hs:= [.val 1002 (.bool false),.val 1006 (.bool false),.val 1011 (.bool true),.val 1018 (.bool false),.val 1022 (.bool true)]) (rs:= []) (by kernel_rfl) (All.cons (okF c0) (All.cons (okF c1) (All.cons (neT c2) (All.cons (okF c3) (All.cons (okT c4) (All.nil))))))
section
variable(c4: ¬ (mx>4096))
include c4
theorem right_does_4(c5:k=0)(c6:n=0)(c7:d=0) :
    FDoes Try.prog 12 [zqA k n d mn mx] (⟨0,.nil⟩) (AVal.bool true) (AHeap.rows 41 [(0,.made [zqA k n d mn mx] 5 true)]) :=
  pcall_does env_ok mixed (hs:= [.val 1002 (.bool false),.val 1006 (.bool false),.val 1011 (.bool true),.val 1018 (.bool false),.val 1022 (.bool false),.val 4000 (.bool true),.val 5002 (.bool true),.val 5006 (.bool true)]) (rs:= []) (by kernel_rfl) (All.cons (okF c0) (All.cons (okF c1) (All.cons (neT c2) (All.cons (okF c3) (All.cons (okF c4) (All.cons (eqT c5) (All.cons (eqT c6) (All.cons (eqT c7) (All.nil)))))))))
theorem right_does_5(c5:k=0)(c6:n=0)(c7: ¬ (d=0)) :
    FDoes Try.prog 12 [zqA k n d mn mx] (⟨0,.nil⟩) (AVal.bool false) (AHeap.rows 41 [(0,.made [zqA k n d mn mx] 5 true)]) :=
  pcall_does env_ok mixed (hs:= [.val 1002 (.bool false),.val 1006 (.bool false),.val 1011 (.bool true),.val 1018 (.bool false),.val 1022 (.bool false),.val 4000 (.bool true),.val 5002 (.bool true),.val 5006 (.bool false)]) (rs:= []) (by kernel_rfl) (All.cons (okF c0) (All.cons (okF c1) (All.cons (neT c2) (All.cons (okF c3) (All.cons (okF c4) (All.cons (eqT c5) (All.cons (eqT c6) (All.cons (eqF c7) (All.nil)))))))))
theorem right_does_6(c5:k=0)(c6: ¬ (n=0)) :
    FDoes Try.prog 12 [zqA k n d mn mx] (⟨0,.nil⟩) (AVal.bool false) (AHeap.rows 41 [(0,.made [zqA k n d mn mx] 5 true)]) :=
  pcall_does env_ok mixed (hs:= [.val 1002 (.bool false),.val 1006 (.bool false),.val 1011 (.bool true),.val 1018 (.bool false),.val 1022 (.bool false),.val 4000 (.bool true),.val 5002 (.bool false)]) (rs:= []) (by kernel_rfl) (All.cons (okF c0) (All.cons (okF c1) (All.cons (neT c2) (All.cons (okF c3) (All.cons (okF c4) (All.cons (eqT c5) (All.cons (eqF c6) (All.nil))))))))
section
variable(c5: ¬ (k=0))
include c5
section
variable(c6:k=1)(c7:n≥0)
include c6 c7
theorem right_does_7(c8:n≤4096)(c9:d=0) :
    FDoes Try.prog 12 [zqA k n d mn mx] (⟨0,.nil⟩) (AVal.bool true) (AHeap.rows 48 [(0,.made [zqA k n d mn mx] 5 true)]) :=
  pcall_does env_ok mixed (hs:= [.val 1002 (.bool false),.val 1006 (.bool false),.val 1011 (.bool true),.val 1018 (.bool false),.val 1022 (.bool false),.val 4000 (.bool false),.val 6000 (.bool true),.val 7002 (.bool true),.val 7006 (.bool true),.val 7011 (.bool true)]) (rs:= []) (by kernel_rfl) (All.cons (okF c0) (All.cons (okF c1) (All.cons (neT c2) (All.cons (okF c3) (All.cons (okF c4) (All.cons (eqF c5) (All.cons (eqT c6) (All.cons (okT c7) (All.cons (okT c8) (All.cons (eqT c9) (All.nil)))))))))))
theorem right_does_8(c8:n≤4096)(c9: ¬ (d=0)) :
    FDoes Try.prog 12 [zqA k n d mn mx] (⟨0,.nil⟩) (AVal.bool false) (AHeap.rows 48 [(0,.made [zqA k n d mn mx] 5 true)]) :=
  pcall_does env_ok mixed (hs:= [.val 1002 (.bool false),.val 1006 (.bool false),.val 1011 (.bool true),.val 1018 (.bool false),.val 1022 (.bool false),.val 4000 (.bool false),.val 6000 (.bool true),.val 7002 (.bool true),.val 7006 (.bool true),.val 7011 (.bool false)]) (rs:= []) (by kernel_rfl) (All.cons (okF c0) (All.cons (okF c1) (All.cons (neT c2) (All.cons (okF c3) (All.cons (okF c4) (All.cons (eqF c5) (All.cons (eqT c6) (All.cons (okT c7) (All.cons (okT c8) (All.cons (eqF c9) (All.nil)))))))))))
theorem right_does_9(c8: ¬ (n≤4096)) :
    FDoes Try.prog 12 [zqA k n d mn mx] (⟨0,.nil⟩) (AVal.bool false) (AHeap.rows 48 [(0,.made [zqA k n d mn mx] 5 true)]) :=
  pcall_does env_ok mixed (hs:= [.val 1002 (.bool false),.val 1006 (.bool false),.val 1011 (.bool true),.val 1018 (.bool false),.val 1022 (.bool false),.val 4000 (.bool false),.val 6000 (.bool true),.val 7002 (.bool true),.val 7006 (.bool false)]) (rs:= []) (by kernel_rfl) (All.cons (okF c0) (All.cons (okF c1) (All.cons (neT c2) (All.cons (okF c3) (All.cons (okF c4) (All.cons (eqF c5) (All.cons (eqT c6) (All.cons (okT c7) (All.cons (okF c8) (All.nil))))))))))
end
theorem right_does_10(c6:k=1)(c7: ¬ (n≥0)) :
    FDoes Try.prog 12 [zqA k n d mn mx] (⟨0,.nil⟩) (AVal.bool false) (AHeap.rows 48 [(0,.made [zqA k n d mn mx] 5 true)]) :=
  pcall_does env_ok mixed (hs:= [.val 1002 (.bool false),.val 1006 (.bool false),.val 1011 (.bool true),.val 1018 (.bool false),.val 1022 (.bool false),.val 4000 (.bool false),.val 6000 (.bool true),.val 7002 (.bool false)]) (rs:= []) (by kernel_rfl) (All.cons (okF c0) (All.cons (okF c1) (All.cons (neT c2) (All.cons (okF c3) (All.cons (okF c4) (All.cons (eqF c5) (All.cons (eqT c6) (All.cons (okF c7) (All.nil)))))))))
section
variable(c6: ¬ (k=1))
include c6
section
variable(c7:k=2)(c8:n≥0)(c9:n≤1000)
include c7 c8 c9
theorem right_does_11(c10:d≥1)(c11:d≤1000) :
    FDoes Try.prog 12 [zqA k n d mn mx] (⟨0,.nil⟩) (AVal.bool true) (AHeap.rows 55 [(0,.made [zqA k n d mn mx] 5 true)]) :=
  pcall_does env_ok mixed (hs:= [.val 1002 (.bool false),.val 1006 (.bool false),.val 1011 (.bool true),.val 1018 (.bool false),.val 1022 (.bool false),.val 4000 (.bool false),.val 6000 (.bool false),.val 8000 (.bool true),.val 9002 (.bool true),.val 9006 (.bool true),.val 9011 (.bool true),.val 9016 (.bool true)]) (rs:= []) (by kernel_rfl) (All.cons (okF c0) (All.cons (okF c1) (All.cons (neT c2) (All.cons (okF c3) (All.cons (okF c4) (All.cons (eqF c5) (All.cons (eqF c6) (All.cons (eqT c7) (All.cons (okT c8) (All.cons (okT c9) (All.cons (okT c10) (All.cons (okT c11) (All.nil)))))))))))))
theorem right_does_12(c10:d≥1)(c11: ¬ (d≤1000)) :
    FDoes Try.prog 12 [zqA k n d mn mx] (⟨0,.nil⟩) (AVal.bool false) (AHeap.rows 55 [(0,.made [zqA k n d mn mx] 5 true)]) :=
  pcall_does env_ok mixed (hs:= [.val 1002 (.bool false),.val 1006 (.bool false),.val 1011 (.bool true),.val 1018 (.bool false),.val 1022 (.bool false),.val 4000 (.bool false),.val 6000 (.bool false),.val 8000 (.bool true),.val 9002 (.bool true),.val 9006 (.bool true),.val 9011 (.bool true),.val 9016 (.bool false)]) (rs:= []) (by kernel_rfl) (All.cons (okF c0) (All.cons (okF c1) (All.cons (neT c2) (All.cons (okF c3) (All.cons (okF c4) (All.cons (eqF c5) (All.cons (eqF c6) (All.cons (eqT c7) (All.cons (okT c8) (All.cons (okT c9) (All.cons (okT c10) (All.cons (okF c11) (All.nil)))))))))))))
theorem right_does_13(c10: ¬ (d≥1)) :
    FDoes Try.prog 12 [zqA k n d mn mx] (⟨0,.nil⟩) (AVal.bool false) (AHeap.rows 55 [(0,.made [zqA k n d mn mx] 5 true)]) :=
  pcall_does env_ok mixed (hs:= [.val 1002 (.bool false),.val 1006 (.bool false),.val 1011 (.bool true),.val 1018 (.bool false),.val 1022 (.bool false),.val 4000 (.bool false),.val 6000 (.bool false),.val 8000 (.bool true),.val 9002 (.bool true),.val 9006 (.bool true),.val 9011 (.bool false)]) (rs:= []) (by kernel_rfl) (All.cons (okF c0) (All.cons (okF c1) (All.cons (neT c2) (All.cons (okF c3) (All.cons (okF c4) (All.cons (eqF c5) (All.cons (eqF c6) (All.cons (eqT c7) (All.cons (okT c8) (All.cons (okT c9) (All.cons (okF c10) (All.nil))))))))))))
end
theorem right_does_14(c7:k=2)(c8:n≥0)(c9: ¬ (n≤1000)) :
    FDoes Try.prog 12 [zqA k n d mn mx] (⟨0,.nil⟩) (AVal.bool false) (AHeap.rows 55 [(0,.made [zqA k n d mn mx] 5 true)]) :=
  pcall_does env_ok mixed (hs:= [.val 1002 (.bool false),.val 1006 (.bool false),.val 1011 (.bool true),.val 1018 (.bool false),.val 1022 (.bool false),.val 4000 (.bool false),.val 6000 (.bool false),.val 8000 (.bool true),.val 9002 (.bool true),.val 9006 (.bool false)]) (rs:= []) (by kernel_rfl) (All.cons (okF c0) (All.cons (okF c1) (All.cons (neT c2) (All.cons (okF c3) (All.cons (okF c4) (All.cons (eqF c5) (All.cons (eqF c6) (All.cons (eqT c7) (All.cons (okT c8) (All.cons (okF c9) (All.nil)))))))))))
theorem right_does_15(c7:k=2)(c8: ¬ (n≥0)) :
    FDoes Try.prog 12 [zqA k n d mn mx] (⟨0,.nil⟩) (AVal.bool false) (AHeap.rows 55 [(0,.made [zqA k n d mn mx] 5 true)]) :=
  pcall_does env_ok mixed (hs:= [.val 1002 (.bool false),.val 1006 (.bool false),.val 1011 (.bool true),.val 1018 (.bool false),.val 1022 (.bool false),.val 4000 (.bool false),.val 6000 (.bool false),.val 8000 (.bool true),.val 9002 (.bool false)]) (rs:= []) (by kernel_rfl) (All.cons (okF c0) (All.cons (okF c1) (All.cons (neT c2) (All.cons (okF c3) (All.cons (okF c4) (All.cons (eqF c5) (All.cons (eqF c6) (All.cons (eqT c7) (All.cons (okF c8) (All.nil))))))))))
section
variable(c7: ¬ (k=2))(c8:k=3)
include c7 c8
theorem right_does_16(c9:n≥1)(c10:n≤1000)(c11:d=0) :
    FDoes Try.prog 12 [zqA k n d mn mx] (⟨0,.nil⟩) (AVal.bool true) (AHeap.rows 52 [(0,.made [zqA k n d mn mx] 5 true)]) :=
  pcall_does env_ok mixed (hs:= [.val 1002 (.bool false),.val 1006 (.bool false),.val 1011 (.bool true),.val 1018 (.bool false),.val 1022 (.bool false),.val 4000 (.bool false),.val 6000 (.bool false),.val 8000 (.bool false),.val 10000 (.bool true),.val 11002 (.bool true),.val 11006 (.bool true),.val 11011 (.bool true)]) (rs:= []) (by kernel_rfl) (All.cons (okF c0) (All.cons (okF c1) (All.cons (neT c2) (All.cons (okF c3) (All.cons (okF c4) (All.cons (eqF c5) (All.cons (eqF c6) (All.cons (eqF c7) (All.cons (eqT c8) (All.cons (okT c9) (All.cons (okT c10) (All.cons (eqT c11) (All.nil)))))))))))))
theorem right_does_17(c9:n≥1)(c10:n≤1000)(c11: ¬ (d=0)) :
    FDoes Try.prog 12 [zqA k n d mn mx] (⟨0,.nil⟩) (AVal.bool false) (AHeap.rows 52 [(0,.made [zqA k n d mn mx] 5 true)]) :=
  pcall_does env_ok mixed (hs:= [.val 1002 (.bool false),.val 1006 (.bool false),.val 1011 (.bool true),.val 1018 (.bool false),.val 1022 (.bool false),.val 4000 (.bool false),.val 6000 (.bool false),.val 8000 (.bool false),.val 10000 (.bool true),.val 11002 (.bool true),.val 11006 (.bool true),.val 11011 (.bool false)]) (rs:= []) (by kernel_rfl) (All.cons (okF c0) (All.cons (okF c1) (All.cons (neT c2) (All.cons (okF c3) (All.cons (okF c4) (All.cons (eqF c5) (All.cons (eqF c6) (All.cons (eqF c7) (All.cons (eqT c8) (All.cons (okT c9) (All.cons (okT c10) (All.cons (eqF c11) (All.nil)))))))))))))
theorem right_does_18(c9:n≥1)(c10: ¬ (n≤1000)) :
    FDoes Try.prog 12 [zqA k n d mn mx] (⟨0,.nil⟩) (AVal.bool false) (AHeap.rows 52 [(0,.made [zqA k n d mn mx] 5 true)]) :=
  pcall_does env_ok mixed (hs:= [.val 1002 (.bool false),.val 1006 (.bool false),.val 1011 (.bool true),.val 1018 (.bool false),.val 1022 (.bool false),.val 4000 (.bool false),.val 6000 (.bool false),.val 8000 (.bool false),.val 10000 (.bool true),.val 11002 (.bool true),.val 11006 (.bool false)]) (rs:= []) (by kernel_rfl) (All.cons (okF c0) (All.cons (okF c1) (All.cons (neT c2) (All.cons (okF c3) (All.cons (okF c4) (All.cons (eqF c5) (All.cons (eqF c6) (All.cons (eqF c7) (All.cons (eqT c8) (All.cons (okT c9) (All.cons (okF c10) (All.nil))))))))))))
theorem right_does_19(c9: ¬ (n≥1)) :
    FDoes Try.prog 12 [zqA k n d mn mx] (⟨0,.nil⟩) (AVal.bool false) (AHeap.rows 52 [(0,.made [zqA k n d mn mx] 5 true)]) :=
  pcall_does env_ok mixed (hs:= [.val 1002 (.bool false),.val 1006 (.bool false),.val 1011 (.bool true),.val 1018 (.bool false),.val 1022 (.bool false),.val 4000 (.bool false),.val 6000 (.bool false),.val 8000 (.bool false),.val 10000 (.bool true),.val 11002 (.bool false)]) (rs:= []) (by kernel_rfl) (All.cons (okF c0) (All.cons (okF c1) (All.cons (neT c2) (All.cons (okF c3) (All.cons (okF c4) (All.cons (eqF c5) (All.cons (eqF c6) (All.cons (eqF c7) (All.cons (eqT c8) (All.cons (okF c9) (All.nil)))))))))))
end
theorem right_does_20(c7: ¬ (k=2))(c8: ¬ (k=3)) :
    FDoes Try.prog 12 [zqA k n d mn mx] (⟨0,.nil⟩) (AVal.bool false) (AHeap.rows 39 [(0,.made [zqA k n d mn mx] 5 true)]) :=
  pcall_does env_ok mixed (hs:= [.val 1002 (.bool false),.val 1006 (.bool false),.val 1011 (.bool true),.val 1018 (.bool false),.val 1022 (.bool false),.val 4000 (.bool false),.val 6000 (.bool false),.val 8000 (.bool false),.val 10000 (.bool false)]) (rs:= []) (by kernel_rfl) (All.cons (okF c0) (All.cons (okF c1) (All.cons (neT c2) (All.cons (okF c3) (All.cons (okF c4) (All.cons (eqF c5) (All.cons (eqF c6) (All.cons (eqF c7) (All.cons (eqF c8) (All.nil))))))))))
end
end
end
end
end
section
variable(c2:mx=0)
include c2
theorem right_does_21(c3:k=0)(c4:n=0)(c5:d=0) :
    FDoes Try.prog 12 [zqA k n d mn mx] (⟨0,.nil⟩) (AVal.bool true) (AHeap.rows 41 [(0,.made [zqA k n d mn mx] 5 true)]) :=
  pcall_does env_ok mixed (hs:= [.val 1002 (.bool false),.val 1006 (.bool false),.val 1011 (.bool false),.val 4000 (.bool true),.val 5002 (.bool true),.val 5006 (.bool true)]) (rs:= []) (by kernel_rfl) (All.cons (okF c0) (All.cons (okF c1) (All.cons (neF c2) (All.cons (eqT c3) (All.cons (eqT c4) (All.cons (eqT c5) (All.nil)))))))
theorem right_does_22(c3:k=0)(c4:n=0)(c5: ¬ (d=0)) :
    FDoes Try.prog 12 [zqA k n d mn mx] (⟨0,.nil⟩) (AVal.bool false) (AHeap.rows 41 [(0,.made [zqA k n d mn mx] 5 true)]) :=
  pcall_does env_ok mixed (hs:= [.val 1002 (.bool false),.val 1006 (.bool false),.val 1011 (.bool false),.val 4000 (.bool true),.val 5002 (.bool true),.val 5006 (.bool false)]) (rs:= []) (by kernel_rfl) (All.cons (okF c0) (All.cons (okF c1) (All.cons (neF c2) (All.cons (eqT c3) (All.cons (eqT c4) (All.cons (eqF c5) (All.nil)))))))
theorem right_does_23(c3:k=0)(c4: ¬ (n=0)) :
    FDoes Try.prog 12 [zqA k n d mn mx] (⟨0,.nil⟩) (AVal.bool false) (AHeap.rows 41 [(0,.made [zqA k n d mn mx] 5 true)]) :=
  pcall_does env_ok mixed (hs:= [.val 1002 (.bool false),.val 1006 (.bool false),.val 1011 (.bool false),.val 4000 (.bool true),.val 5002 (.bool false)]) (rs:= []) (by kernel_rfl) (All.cons (okF c0) (All.cons (okF c1) (All.cons (neF c2) (All.cons (eqT c3) (All.cons (eqF c4) (All.nil))))))
section
variable(c3: ¬ (k=0))
include c3
section
variable(c4:k=1)(c5:n≥0)
include c4 c5
theorem right_does_24(c6:n≤4096)(c7:d=0) :
    FDoes Try.prog 12 [zqA k n d mn mx] (⟨0,.nil⟩) (AVal.bool true) (AHeap.rows 48 [(0,.made [zqA k n d mn mx] 5 true)]) :=
  pcall_does env_ok mixed (hs:= [.val 1002 (.bool false),.val 1006 (.bool false),.val 1011 (.bool false),.val 4000 (.bool false),.val 6000 (.bool true),.val 7002 (.bool true),.val 7006 (.bool true),.val 7011 (.bool true)]) (rs:= []) (by kernel_rfl) (All.cons (okF c0) (All.cons (okF c1) (All.cons (neF c2) (All.cons (eqF c3) (All.cons (eqT c4) (All.cons (okT c5) (All.cons (okT c6) (All.cons (eqT c7) (All.nil)))))))))
theorem right_does_25(c6:n≤4096)(c7: ¬ (d=0)) :
    FDoes Try.prog 12 [zqA k n d mn mx] (⟨0,.nil⟩) (AVal.bool false) (AHeap.rows 48 [(0,.made [zqA k n d mn mx] 5 true)]) :=
  pcall_does env_ok mixed (hs:= [.val 1002 (.bool false),.val 1006 (.bool false),.val 1011 (.bool false),.val 4000 (.bool false),.val 6000 (.bool true),.val 7002 (.bool true),.val 7006 (.bool true),.val 7011 (.bool false)]) (rs:= []) (by kernel_rfl) (All.cons (okF c0) (All.cons (okF c1) (All.cons (neF c2) (All.cons (eqF c3) (All.cons (eqT c4) (All.cons (okT c5) (All.cons (okT c6) (All.cons (eqF c7) (All.nil)))))))))
theorem right_does_26(c6: ¬ (n≤4096)) :
    FDoes Try.prog 12 [zqA k n d mn mx] (⟨0,.nil⟩) (AVal.bool false) (AHeap.rows 48 [(0,.made [zqA k n d mn mx] 5 true)]) :=
  pcall_does env_ok mixed (hs:= [.val 1002 (.bool false),.val 1006 (.bool false),.val 1011 (.bool false),.val 4000 (.bool false),.val 6000 (.bool true),.val 7002 (.bool true),.val 7006 (.bool false)]) (rs:= []) (by kernel_rfl) (All.cons (okF c0) (All.cons (okF c1) (All.cons (neF c2) (All.cons (eqF c3) (All.cons (eqT c4) (All.cons (okT c5) (All.cons (okF c6) (All.nil))))))))
end
theorem right_does_27(c4:k=1)(c5: ¬ (n≥0)) :
    FDoes Try.prog 12 [zqA k n d mn mx] (⟨0,.nil⟩) (AVal.bool false) (AHeap.rows 48 [(0,.made [zqA k n d mn mx] 5 true)]) :=
  pcall_does env_ok mixed (hs:= [.val 1002 (.bool false),.val 1006 (.bool false),.val 1011 (.bool false),.val 4000 (.bool false),.val 6000 (.bool true),.val 7002 (.bool false)]) (rs:= []) (by kernel_rfl) (All.cons (okF c0) (All.cons (okF c1) (All.cons (neF c2) (All.cons (eqF c3) (All.cons (eqT c4) (All.cons (okF c5) (All.nil)))))))
section
variable(c4: ¬ (k=1))
include c4
section
variable(c5:k=2)(c6:n≥0)(c7:n≤1000)
include c5 c6 c7
theorem right_does_28(c8:d≥1)(c9:d≤1000) :
    FDoes Try.prog 12 [zqA k n d mn mx] (⟨0,.nil⟩) (AVal.bool true) (AHeap.rows 55 [(0,.made [zqA k n d mn mx] 5 true)]) :=
  pcall_does env_ok mixed (hs:= [.val 1002 (.bool false),.val 1006 (.bool false),.val 1011 (.bool false),.val 4000 (.bool false),.val 6000 (.bool false),.val 8000 (.bool true),.val 9002 (.bool true),.val 9006 (.bool true),.val 9011 (.bool true),.val 9016 (.bool true)]) (rs:= []) (by kernel_rfl) (All.cons (okF c0) (All.cons (okF c1) (All.cons (neF c2) (All.cons (eqF c3) (All.cons (eqF c4) (All.cons (eqT c5) (All.cons (okT c6) (All.cons (okT c7) (All.cons (okT c8) (All.cons (okT c9) (All.nil)))))))))))
theorem right_does_29(c8:d≥1)(c9: ¬ (d≤1000)) :
    FDoes Try.prog 12 [zqA k n d mn mx] (⟨0,.nil⟩) (AVal.bool false) (AHeap.rows 55 [(0,.made [zqA k n d mn mx] 5 true)]) :=
  pcall_does env_ok mixed (hs:= [.val 1002 (.bool false),.val 1006 (.bool false),.val 1011 (.bool false),.val 4000 (.bool false),.val 6000 (.bool false),.val 8000 (.bool true),.val 9002 (.bool true),.val 9006 (.bool true),.val 9011 (.bool true),.val 9016 (.bool false)]) (rs:= []) (by kernel_rfl) (All.cons (okF c0) (All.cons (okF c1) (All.cons (neF c2) (All.cons (eqF c3) (All.cons (eqF c4) (All.cons (eqT c5) (All.cons (okT c6) (All.cons (okT c7) (All.cons (okT c8) (All.cons (okF c9) (All.nil)))))))))))
theorem right_does_30(c8: ¬ (d≥1)) :
    FDoes Try.prog 12 [zqA k n d mn mx] (⟨0,.nil⟩) (AVal.bool false) (AHeap.rows 55 [(0,.made [zqA k n d mn mx] 5 true)]) :=
  pcall_does env_ok mixed (hs:= [.val 1002 (.bool false),.val 1006 (.bool false),.val 1011 (.bool false),.val 4000 (.bool false),.val 6000 (.bool false),.val 8000 (.bool true),.val 9002 (.bool true),.val 9006 (.bool true),.val 9011 (.bool false)]) (rs:= []) (by kernel_rfl) (All.cons (okF c0) (All.cons (okF c1) (All.cons (neF c2) (All.cons (eqF c3) (All.cons (eqF c4) (All.cons (eqT c5) (All.cons (okT c6) (All.cons (okT c7) (All.cons (okF c8) (All.nil))))))))))
end
theorem right_does_31(c5:k=2)(c6:n≥0)(c7: ¬ (n≤1000)) :
    FDoes Try.prog 12 [zqA k n d mn mx] (⟨0,.nil⟩) (AVal.bool false) (AHeap.rows 55 [(0,.made [zqA k n d mn mx] 5 true)]) :=
  pcall_does env_ok mixed (hs:= [.val 1002 (.bool false),.val 1006 (.bool false),.val 1011 (.bool false),.val 4000 (.bool false),.val 6000 (.bool false),.val 8000 (.bool true),.val 9002 (.bool true),.val 9006 (.bool false)]) (rs:= []) (by kernel_rfl) (All.cons (okF c0) (All.cons (okF c1) (All.cons (neF c2) (All.cons (eqF c3) (All.cons (eqF c4) (All.cons (eqT c5) (All.cons (okT c6) (All.cons (okF c7) (All.nil)))))))))
theorem right_does_32(c5:k=2)(c6: ¬ (n≥0)) :
    FDoes Try.prog 12 [zqA k n d mn mx] (⟨0,.nil⟩) (AVal.bool false) (AHeap.rows 55 [(0,.made [zqA k n d mn mx] 5 true)]) :=
  pcall_does env_ok mixed (hs:= [.val 1002 (.bool false),.val 1006 (.bool false),.val 1011 (.bool false),.val 4000 (.bool false),.val 6000 (.bool false),.val 8000 (.bool true),.val 9002 (.bool false)]) (rs:= []) (by kernel_rfl) (All.cons (okF c0) (All.cons (okF c1) (All.cons (neF c2) (All.cons (eqF c3) (All.cons (eqF c4) (All.cons (eqT c5) (All.cons (okF c6) (All.nil))))))))
section
variable(c5: ¬ (k=2))(c6:k=3)
include c5 c6
theorem right_does_33(c7:n≥1)(c8:n≤1000)(c9:d=0) :
    FDoes Try.prog 12 [zqA k n d mn mx] (⟨0,.nil⟩) (AVal.bool true) (AHeap.rows 52 [(0,.made [zqA k n d mn mx] 5 true)]) :=
  pcall_does env_ok mixed (hs:= [.val 1002 (.bool false),.val 1006 (.bool false),.val 1011 (.bool false),.val 4000 (.bool false),.val 6000 (.bool false),.val 8000 (.bool false),.val 10000 (.bool true),.val 11002 (.bool true),.val 11006 (.bool true),.val 11011 (.bool true)]) (rs:= []) (by kernel_rfl) (All.cons (okF c0) (All.cons (okF c1) (All.cons (neF c2) (All.cons (eqF c3) (All.cons (eqF c4) (All.cons (eqF c5) (All.cons (eqT c6) (All.cons (okT c7) (All.cons (okT c8) (All.cons (eqT c9) (All.nil)))))))))))
theorem right_does_34(c7:n≥1)(c8:n≤1000)(c9: ¬ (d=0)) :
    FDoes Try.prog 12 [zqA k n d mn mx] (⟨0,.nil⟩) (AVal.bool false) (AHeap.rows 52 [(0,.made [zqA k n d mn mx] 5 true)]) :=
  pcall_does env_ok mixed (hs:= [.val 1002 (.bool false),.val 1006 (.bool false),.val 1011 (.bool false),.val 4000 (.bool false),.val 6000 (.bool false),.val 8000 (.bool false),.val 10000 (.bool true),.val 11002 (.bool true),.val 11006 (.bool true),.val 11011 (.bool false)]) (rs:= []) (by kernel_rfl) (All.cons (okF c0) (All.cons (okF c1) (All.cons (neF c2) (All.cons (eqF c3) (All.cons (eqF c4) (All.cons (eqF c5) (All.cons (eqT c6) (All.cons (okT c7) (All.cons (okT c8) (All.cons (eqF c9) (All.nil)))))))))))
theorem right_does_35(c7:n≥1)(c8: ¬ (n≤1000)) :
    FDoes Try.prog 12 [zqA k n d mn mx] (⟨0,.nil⟩) (AVal.bool false) (AHeap.rows 52 [(0,.made [zqA k n d mn mx] 5 true)]) :=
  pcall_does env_ok mixed (hs:= [.val 1002 (.bool false),.val 1006 (.bool false),.val 1011 (.bool false),.val 4000 (.bool false),.val 6000 (.bool false),.val 8000 (.bool false),.val 10000 (.bool true),.val 11002 (.bool true),.val 11006 (.bool false)]) (rs:= []) (by kernel_rfl) (All.cons (okF c0) (All.cons (okF c1) (All.cons (neF c2) (All.cons (eqF c3) (All.cons (eqF c4) (All.cons (eqF c5) (All.cons (eqT c6) (All.cons (okT c7) (All.cons (okF c8) (All.nil))))))))))
theorem right_does_36(c7: ¬ (n≥1)) :
    FDoes Try.prog 12 [zqA k n d mn mx] (⟨0,.nil⟩) (AVal.bool false) (AHeap.rows 52 [(0,.made [zqA k n d mn mx] 5 true)]) :=
  pcall_does env_ok mixed (hs:= [.val 1002 (.bool false),.val 1006 (.bool false),.val 1011 (.bool false),.val 4000 (.bool false),.val 6000 (.bool false),.val 8000 (.bool false),.val 10000 (.bool true),.val 11002 (.bool false)]) (rs:= []) (by kernel_rfl) (All.cons (okF c0) (All.cons (okF c1) (All.cons (neF c2) (All.cons (eqF c3) (All.cons (eqF c4) (All.cons (eqF c5) (All.cons (eqT c6) (All.cons (okF c7) (All.nil)))))))))
end
theorem right_does_37(c5: ¬ (k=2))(c6: ¬ (k=3)) :
    FDoes Try.prog 12 [zqA k n d mn mx] (⟨0,.nil⟩) (AVal.bool false) (AHeap.rows 39 [(0,.made [zqA k n d mn mx] 5 true)]) :=
  pcall_does env_ok mixed (hs:= [.val 1002 (.bool false),.val 1006 (.bool false),.val 1011 (.bool false),.val 4000 (.bool false),.val 6000 (.bool false),.val 8000 (.bool false),.val 10000 (.bool false)]) (rs:= []) (by kernel_rfl) (All.cons (okF c0) (All.cons (okF c1) (All.cons (neF c2) (All.cons (eqF c3) (All.cons (eqF c4) (All.cons (eqF c5) (All.cons (eqF c6) (All.nil))))))))
end
end
end
end
end
end
theorem right_does (k n d mn mx:Int) (H:AHeap):FDoes Try.prog 12 [.agg [.int .i8 k,.int .i64 n,.int .i64 d,.int .i64 mn,.int .i64 mx]] H (.bool (rightB k n d mn mx)) H:=by
  have ha: ∀ z9∈([.agg [.int .i8 k,.int .i64 n,.int .i64 d,.int .i64 mn,.int .i64 mx]]:List AVal),Bare z9:=by simp [Bare,AVal.ren,AVal.rens,Clo,Clos]
  by_cases c0:mn<0
  · skip
    have hp:=right_does_0 k n d mn mx c0
    have e:rightB k n d mn mx=false:=by simp only [rightB,decide_eq_false_iff_not];omega
    rw [e];exact hp.bare ha (Bare.bool _) H
  · skip
    by_cases c1:mn>4096
    · skip
      have hp:=right_does_1 k n d mn mx c0 c1
      have e:rightB k n d mn mx=false:=by simp only [rightB,decide_eq_false_iff_not];omega
      rw [e];exact hp.bare ha (Bare.bool _) H
    · skip
      by_cases c2:mx=0
      · skip
        by_cases c3:k=0
        · skip
          by_cases c4:n=0
          · skip
            by_cases c5:d=0
            · skip
              have hp:=right_does_21 k n d mn mx c0 c1 c2 c3 c4 c5
              have e:rightB k n d mn mx=true:=by simp only [rightB,decide_eq_true_eq];omega
              rw [e];exact hp.bare ha (Bare.bool _) H
            · skip
              have hp:=right_does_22 k n d mn mx c0 c1 c2 c3 c4 c5
              have e:rightB k n d mn mx=false:=by simp only [rightB,decide_eq_false_iff_not];omega
              rw [e];exact hp.bare ha (Bare.bool _) H
          · skip
            have hp:=right_does_23 k n d mn mx c0 c1 c2 c3 c4
            have e:rightB k n d mn mx=false:=by simp only [rightB,decide_eq_false_iff_not];omega
            rw [e];exact hp.bare ha (Bare.bool _) H
        · skip
          by_cases c4:k=1
          · skip
            by_cases c5:n≥0
            · skip
              by_cases c6:n≤4096
              · skip
                by_cases c7:d=0
                · skip
                  have hp:=right_does_24 k n d mn mx c0 c1 c2 c3 c4 c5 c6 c7
                  have e:rightB k n d mn mx=true:=by simp only [rightB,decide_eq_true_eq];omega
                  rw [e];exact hp.bare ha (Bare.bool _) H
                · skip
                  have hp:=right_does_25 k n d mn mx c0 c1 c2 c3 c4 c5 c6 c7
                  have e:rightB k n d mn mx=false:=by simp only [rightB,decide_eq_false_iff_not];omega
                  rw [e];exact hp.bare ha (Bare.bool _) H
              · skip
                have hp:=right_does_26 k n d mn mx c0 c1 c2 c3 c4 c5 c6
                have e:rightB k n d mn mx=false:=by simp only [rightB,decide_eq_false_iff_not];omega
                rw [e];exact hp.bare ha (Bare.bool _) H
            · skip
              have hp:=right_does_27 k n d mn mx c0 c1 c2 c3 c4 c5
              have e:rightB k n d mn mx=false:=by simp only [rightB,decide_eq_false_iff_not];omega
              rw [e];exact hp.bare ha (Bare.bool _) H
          · skip
            by_cases c5:k=2
            · skip
              by_cases c6:n≥0
              · skip
                by_cases c7:n≤1000
                · skip
                  by_cases c8:d≥1
                  · skip
                    by_cases c9:d≤1000
                    · skip
                      have hp:=right_does_28 k n d mn mx c0 c1 c2 c3 c4 c5 c6 c7 c8 c9
                      have e:rightB k n d mn mx=true:=by simp only [rightB,decide_eq_true_eq];omega
                      rw [e];exact hp.bare ha (Bare.bool _) H
                    · skip
                      have hp:=right_does_29 k n d mn mx c0 c1 c2 c3 c4 c5 c6 c7 c8 c9
                      have e:rightB k n d mn mx=false:=by simp only [rightB,decide_eq_false_iff_not];omega
                      rw [e];exact hp.bare ha (Bare.bool _) H
                  · skip
                    have hp:=right_does_30 k n d mn mx c0 c1 c2 c3 c4 c5 c6 c7 c8
                    have e:rightB k n d mn mx=false:=by simp only [rightB,decide_eq_false_iff_not];omega
                    rw [e];exact hp.bare ha (Bare.bool _) H
                · skip
                  have hp:=right_does_31 k n d mn mx c0 c1 c2 c3 c4 c5 c6 c7
                  have e:rightB k n d mn mx=false:=by simp only [rightB,decide_eq_false_iff_not];omega
                  rw [e];exact hp.bare ha (Bare.bool _) H
              · skip
                have hp:=right_does_32 k n d mn mx c0 c1 c2 c3 c4 c5 c6
                have e:rightB k n d mn mx=false:=by simp only [rightB,decide_eq_false_iff_not];omega
                rw [e];exact hp.bare ha (Bare.bool _) H
            · skip
              by_cases c6:k=3
              · skip
                by_cases c7:n≥1
                · skip
                  by_cases c8:n≤1000
                  · skip
                    by_cases c9:d=0
                    · skip
                      have hp:=right_does_33 k n d mn mx c0 c1 c2 c3 c4 c5 c6 c7 c8 c9
                      have e:rightB k n d mn mx=true:=by simp only [rightB,decide_eq_true_eq];omega
                      rw [e];exact hp.bare ha (Bare.bool _) H
                    · skip
                      have hp:=right_does_34 k n d mn mx c0 c1 c2 c3 c4 c5 c6 c7 c8 c9
                      have e:rightB k n d mn mx=false:=by simp only [rightB,decide_eq_false_iff_not];omega
                      rw [e];exact hp.bare ha (Bare.bool _) H
                  · skip
                    have hp:=right_does_35 k n d mn mx c0 c1 c2 c3 c4 c5 c6 c7 c8
                    have e:rightB k n d mn mx=false:=by simp only [rightB,decide_eq_false_iff_not];omega
                    rw [e];exact hp.bare ha (Bare.bool _) H
                · skip
                  have hp:=right_does_36 k n d mn mx c0 c1 c2 c3 c4 c5 c6 c7
                  have e:rightB k n d mn mx=false:=by simp only [rightB,decide_eq_false_iff_not];omega
                  rw [e];exact hp.bare ha (Bare.bool _) H
              · skip
                have hp:=right_does_37 k n d mn mx c0 c1 c2 c3 c4 c5 c6
                have e:rightB k n d mn mx=false:=by simp only [rightB,decide_eq_false_iff_not];omega
                rw [e];exact hp.bare ha (Bare.bool _) H
      · skip
        by_cases c3:mx<if 1>mn then 1 else mn
        · skip
          have hp:=right_does_2 k n d mn mx c0 c1 c2 c3
          have e:rightB k n d mn mx=false:=by simp only [rightB,decide_eq_false_iff_not];omega
          rw [e];exact hp.bare ha (Bare.bool _) H
        · skip
          by_cases c4:mx>4096
          · skip
            have hp:=right_does_3 k n d mn mx c0 c1 c2 c3 c4
            have e:rightB k n d mn mx=false:=by simp only [rightB,decide_eq_false_iff_not];omega
            rw [e];exact hp.bare ha (Bare.bool _) H
          · skip
            by_cases c5:k=0
            · skip
              by_cases c6:n=0
              · skip
                by_cases c7:d=0
                · skip
                  have hp:=right_does_4 k n d mn mx c0 c1 c2 c3 c4 c5 c6 c7
                  have e:rightB k n d mn mx=true:=by simp only [rightB,decide_eq_true_eq];omega
                  rw [e];exact hp.bare ha (Bare.bool _) H
                · skip
                  have hp:=right_does_5 k n d mn mx c0 c1 c2 c3 c4 c5 c6 c7
                  have e:rightB k n d mn mx=false:=by simp only [rightB,decide_eq_false_iff_not];omega
                  rw [e];exact hp.bare ha (Bare.bool _) H
              · skip
                have hp:=right_does_6 k n d mn mx c0 c1 c2 c3 c4 c5 c6
                have e:rightB k n d mn mx=false:=by simp only [rightB,decide_eq_false_iff_not];omega
                rw [e];exact hp.bare ha (Bare.bool _) H
            · skip
              by_cases c6:k=1
              · skip
                by_cases c7:n≥0
                · skip
                  by_cases c8:n≤4096
                  · skip
                    by_cases c9:d=0
                    · skip
                      have hp:=right_does_7 k n d mn mx c0 c1 c2 c3 c4 c5 c6 c7 c8 c9
                      have e:rightB k n d mn mx=true:=by simp only [rightB,decide_eq_true_eq];omega
                      rw [e];exact hp.bare ha (Bare.bool _) H
                    · skip
                      have hp:=right_does_8 k n d mn mx c0 c1 c2 c3 c4 c5 c6 c7 c8 c9
                      have e:rightB k n d mn mx=false:=by simp only [rightB,decide_eq_false_iff_not];omega
                      rw [e];exact hp.bare ha (Bare.bool _) H
                  · skip
                    have hp:=right_does_9 k n d mn mx c0 c1 c2 c3 c4 c5 c6 c7 c8
                    have e:rightB k n d mn mx=false:=by simp only [rightB,decide_eq_false_iff_not];omega
                    rw [e];exact hp.bare ha (Bare.bool _) H
                · skip
                  have hp:=right_does_10 k n d mn mx c0 c1 c2 c3 c4 c5 c6 c7
                  have e:rightB k n d mn mx=false:=by simp only [rightB,decide_eq_false_iff_not];omega
                  rw [e];exact hp.bare ha (Bare.bool _) H
              · skip
                by_cases c7:k=2
                · skip
                  by_cases c8:n≥0
                  · skip
                    by_cases c9:n≤1000
                    · skip
                      by_cases c10:d≥1
                      · skip
                        by_cases c11:d≤1000
                        · skip
                          have hp:=right_does_11 k n d mn mx c0 c1 c2 c3 c4 c5 c6 c7 c8 c9 c10 c11
                          have e:rightB k n d mn mx=true:=by simp only [rightB,decide_eq_true_eq];omega
                          rw [e];exact hp.bare ha (Bare.bool _) H
                        · skip
                          have hp:=right_does_12 k n d mn mx c0 c1 c2 c3 c4 c5 c6 c7 c8 c9 c10 c11
                          have e:rightB k n d mn mx=false:=by simp only [rightB,decide_eq_false_iff_not];omega
                          rw [e];exact hp.bare ha (Bare.bool _) H
                      · skip
                        have hp:=right_does_13 k n d mn mx c0 c1 c2 c3 c4 c5 c6 c7 c8 c9 c10
                        have e:rightB k n d mn mx=false:=by simp only [rightB,decide_eq_false_iff_not];omega
                        rw [e];exact hp.bare ha (Bare.bool _) H
                    · skip
                      have hp:=right_does_14 k n d mn mx c0 c1 c2 c3 c4 c5 c6 c7 c8 c9
                      have e:rightB k n d mn mx=false:=by simp only [rightB,decide_eq_false_iff_not];omega
                      rw [e];exact hp.bare ha (Bare.bool _) H
                  · skip
                    have hp:=right_does_15 k n d mn mx c0 c1 c2 c3 c4 c5 c6 c7 c8
                    have e:rightB k n d mn mx=false:=by simp only [rightB,decide_eq_false_iff_not];omega
                    rw [e];exact hp.bare ha (Bare.bool _) H
                · skip
                  by_cases c8:k=3
                  · skip
                    by_cases c9:n≥1
                    · skip
                      by_cases c10:n≤1000
                      · skip
                        by_cases c11:d=0
                        · skip
                          have hp:=right_does_16 k n d mn mx c0 c1 c2 c3 c4 c5 c6 c7 c8 c9 c10 c11
                          have e:rightB k n d mn mx=true:=by simp only [rightB,decide_eq_true_eq];omega
                          rw [e];exact hp.bare ha (Bare.bool _) H
                        · skip
                          have hp:=right_does_17 k n d mn mx c0 c1 c2 c3 c4 c5 c6 c7 c8 c9 c10 c11
                          have e:rightB k n d mn mx=false:=by simp only [rightB,decide_eq_false_iff_not];omega
                          rw [e];exact hp.bare ha (Bare.bool _) H
                      · skip
                        have hp:=right_does_18 k n d mn mx c0 c1 c2 c3 c4 c5 c6 c7 c8 c9 c10
                        have e:rightB k n d mn mx=false:=by simp only [rightB,decide_eq_false_iff_not];omega
                        rw [e];exact hp.bare ha (Bare.bool _) H
                    · skip
                      have hp:=right_does_19 k n d mn mx c0 c1 c2 c3 c4 c5 c6 c7 c8 c9
                      have e:rightB k n d mn mx=false:=by simp only [rightB,decide_eq_false_iff_not];omega
                      rw [e];exact hp.bare ha (Bare.bool _) H
                  · skip
                    have hp:=right_does_20 k n d mn mx c0 c1 c2 c3 c4 c5 c6 c7 c8
                    have e:rightB k n d mn mx=false:=by simp only [rightB,decide_eq_false_iff_not];omega
                    rw [e];exact hp.bare ha (Bare.bool _) H
section
variable(k n d mn mx:Int)(c0:withinB mn (0) (4096)=true)
include k n d mn mx c0
section
variable(c1:mx=0)
include c1
theorem refRight_does_0(c2:k=0)(c3:n=0)(c4:d=0) :
    FDoes Try.prog 13 [zqA k n d mn mx] (⟨0,.nil⟩) (AVal.bool true) (AHeap.rows 39 [(0,.made [zqA k n d mn mx] 5 true)]) :=
  pcall_does env_ok mixed (hs:= [.val 1002 (.bool true),.val 1006 (.bool true),.val 3000 (.bool true),.val 4004 (.bool true),.val 4009 (.bool true)]) (rs:= []) (by kernel_rfl) (All.cons (show CallT Try.prog 32 [zqI mn,zqI 0,zqI 4096] (AHeap.rows 23 [(0,.made [zqA k n d mn mx] 5 true)]) (AVal.bool true) (AHeap.rows 23 [(0,.made [zqA k n d mn mx] 5 true)])from⟨c0▸within_does mn (0) (4096) _⟩) (All.cons (eqT c1) (All.cons (eqT c2) (All.cons (eqT c3) (All.cons (eqT c4) (All.nil))))))
theorem refRight_does_1(c2:k=0)(c3:n=0)(c4: ¬ (d=0)) :
    FDoes Try.prog 13 [zqA k n d mn mx] (⟨0,.nil⟩) (AVal.bool false) (AHeap.rows 39 [(0,.made [zqA k n d mn mx] 5 true)]) :=
  pcall_does env_ok mixed (hs:= [.val 1002 (.bool true),.val 1006 (.bool true),.val 3000 (.bool true),.val 4004 (.bool true),.val 4009 (.bool false)]) (rs:= []) (by kernel_rfl) (All.cons (show CallT Try.prog 32 [zqI mn,zqI 0,zqI 4096] (AHeap.rows 23 [(0,.made [zqA k n d mn mx] 5 true)]) (AVal.bool true) (AHeap.rows 23 [(0,.made [zqA k n d mn mx] 5 true)])from⟨c0▸within_does mn (0) (4096) _⟩) (All.cons (eqT c1) (All.cons (eqT c2) (All.cons (eqT c3) (All.cons (eqF c4) (All.nil))))))
theorem refRight_does_2(c2:k=0)(c3: ¬ (n=0)) :
    FDoes Try.prog 13 [zqA k n d mn mx] (⟨0,.nil⟩) (AVal.bool false) (AHeap.rows 39 [(0,.made [zqA k n d mn mx] 5 true)]) :=
  pcall_does env_ok mixed (hs:= [.val 1002 (.bool true),.val 1006 (.bool true),.val 3000 (.bool true),.val 4004 (.bool false)]) (rs:= []) (by kernel_rfl) (All.cons (show CallT Try.prog 32 [zqI mn,zqI 0,zqI 4096] (AHeap.rows 23 [(0,.made [zqA k n d mn mx] 5 true)]) (AVal.bool true) (AHeap.rows 23 [(0,.made [zqA k n d mn mx] 5 true)])from⟨c0▸within_does mn (0) (4096) _⟩) (All.cons (eqT c1) (All.cons (eqT c2) (All.cons (eqF c3) (All.nil)))))
section
variable(c2: ¬ (k=0))
include c2
section
variable(c3:k=1)(c4:withinB n (0) (4096)=true)
include c3 c4
theorem refRight_does_3(c5:d=0) :
    FDoes Try.prog 13 [zqA k n d mn mx] (⟨0,.nil⟩) (AVal.bool true) (AHeap.rows 41 [(0,.made [zqA k n d mn mx] 5 true)]) :=
  pcall_does env_ok mixed (hs:= [.val 1002 (.bool true),.val 1006 (.bool true),.val 3000 (.bool false),.val 5000 (.bool true),.val 6004 (.bool true),.val 6009 (.bool true)]) (rs:= []) (by kernel_rfl) (All.cons (show CallT Try.prog 32 [zqI mn,zqI 0,zqI 4096] (AHeap.rows 23 [(0,.made [zqA k n d mn mx] 5 true)]) (AVal.bool true) (AHeap.rows 23 [(0,.made [zqA k n d mn mx] 5 true)])from⟨c0▸within_does mn (0) (4096) _⟩) (All.cons (eqT c1) (All.cons (eqF c2) (All.cons (eqT c3) (All.cons (show CallT Try.prog 32 [zqI n,zqI 0,zqI 4096] (AHeap.rows 41 [(0,.made [zqA k n d mn mx] 5 true)]) (AVal.bool true) (AHeap.rows 41 [(0,.made [zqA k n d mn mx] 5 true)])from⟨c4▸within_does n (0) (4096) _⟩) (All.cons (eqT c5) (All.nil)))))))
theorem refRight_does_4(c5: ¬ (d=0)) :
    FDoes Try.prog 13 [zqA k n d mn mx] (⟨0,.nil⟩) (AVal.bool false) (AHeap.rows 41 [(0,.made [zqA k n d mn mx] 5 true)]) :=
  pcall_does env_ok mixed (hs:= [.val 1002 (.bool true),.val 1006 (.bool true),.val 3000 (.bool false),.val 5000 (.bool true),.val 6004 (.bool true),.val 6009 (.bool false)]) (rs:= []) (by kernel_rfl) (All.cons (show CallT Try.prog 32 [zqI mn,zqI 0,zqI 4096] (AHeap.rows 23 [(0,.made [zqA k n d mn mx] 5 true)]) (AVal.bool true) (AHeap.rows 23 [(0,.made [zqA k n d mn mx] 5 true)])from⟨c0▸within_does mn (0) (4096) _⟩) (All.cons (eqT c1) (All.cons (eqF c2) (All.cons (eqT c3) (All.cons (show CallT Try.prog 32 [zqI n,zqI 0,zqI 4096] (AHeap.rows 41 [(0,.made [zqA k n d mn mx] 5 true)]) (AVal.bool true) (AHeap.rows 41 [(0,.made [zqA k n d mn mx] 5 true)])from⟨c4▸within_does n (0) (4096) _⟩) (All.cons (eqF c5) (All.nil)))))))
end
theorem refRight_does_5(c3:k=1)(c4: ¬ (withinB n (0) (4096)=true)) :
    FDoes Try.prog 13 [zqA k n d mn mx] (⟨0,.nil⟩) (AVal.bool false) (AHeap.rows 41 [(0,.made [zqA k n d mn mx] 5 true)]) :=
  pcall_does env_ok mixed (hs:= [.val 1002 (.bool true),.val 1006 (.bool true),.val 3000 (.bool false),.val 5000 (.bool true),.val 6004 (.bool false)]) (rs:= []) (by kernel_rfl) (All.cons (show CallT Try.prog 32 [zqI mn,zqI 0,zqI 4096] (AHeap.rows 23 [(0,.made [zqA k n d mn mx] 5 true)]) (AVal.bool true) (AHeap.rows 23 [(0,.made [zqA k n d mn mx] 5 true)])from⟨c0▸within_does mn (0) (4096) _⟩) (All.cons (eqT c1) (All.cons (eqF c2) (All.cons (eqT c3) (All.cons (show CallT Try.prog 32 [zqI n,zqI 0,zqI 4096] (AHeap.rows 41 [(0,.made [zqA k n d mn mx] 5 true)]) (AVal.bool false) (AHeap.rows 41 [(0,.made [zqA k n d mn mx] 5 true)])from⟨Bool.eq_false_iff.2 c4▸within_does n (0) (4096) _⟩) (All.nil))))))
section
variable(c3: ¬ (k=1))
include c3
section
variable(c4:k=2)(c5:withinB n (0) (1000)=true)
include c4 c5
theorem refRight_does_6(c6:withinB d (1) (1000)=true) :
    FDoes Try.prog 13 [zqA k n d mn mx] (⟨0,.nil⟩) (AVal.bool true) (AHeap.rows 43 [(0,.made [zqA k n d mn mx] 5 true)]) :=
  pcall_does env_ok mixed (hs:= [.val 1002 (.bool true),.val 1006 (.bool true),.val 3000 (.bool false),.val 5000 (.bool false),.val 7000 (.bool true),.val 8004 (.bool true),.val 8009 (.bool true)]) (rs:= []) (by kernel_rfl) (All.cons (show CallT Try.prog 32 [zqI mn,zqI 0,zqI 4096] (AHeap.rows 23 [(0,.made [zqA k n d mn mx] 5 true)]) (AVal.bool true) (AHeap.rows 23 [(0,.made [zqA k n d mn mx] 5 true)])from⟨c0▸within_does mn (0) (4096) _⟩) (All.cons (eqT c1) (All.cons (eqF c2) (All.cons (eqF c3) (All.cons (eqT c4) (All.cons (show CallT Try.prog 32 [zqI n,zqI 0,zqI 1000] (AHeap.rows 43 [(0,.made [zqA k n d mn mx] 5 true)]) (AVal.bool true) (AHeap.rows 43 [(0,.made [zqA k n d mn mx] 5 true)])from⟨c5▸within_does n (0) (1000) _⟩) (All.cons (show CallT Try.prog 32 [zqI d,zqI 1,zqI 1000] (AHeap.rows 43 [(0,.made [zqA k n d mn mx] 5 true)]) (AVal.bool true) (AHeap.rows 43 [(0,.made [zqA k n d mn mx] 5 true)])from⟨c6▸within_does d (1) (1000) _⟩) (All.cons (show Agree [zqI n,zqI 0,zqI 1000] [zqI d,zqI 1,zqI 1000] (AHeap.rows 43 [(0,.made [zqA k n d mn mx] 5 true)]) (AHeap.rows 43 [(0,.made [zqA k n d mn mx] 5 true)]) (AVal.bool true) (AVal.bool true) (AHeap.rows 43 [(0,.made [zqA k n d mn mx] 5 true)]) (AHeap.rows 43 [(0,.made [zqA k n d mn mx] 5 true)])from⟨by intro hh _;first | (simp at hh;done) | (simp at hh;simp [hh]) | exact⟨rfl,rfl⟩⟩) (All.nil)))))))))
theorem refRight_does_7(c6: ¬ (withinB d (1) (1000)=true)) :
    FDoes Try.prog 13 [zqA k n d mn mx] (⟨0,.nil⟩) (AVal.bool false) (AHeap.rows 43 [(0,.made [zqA k n d mn mx] 5 true)]) :=
  pcall_does env_ok mixed (hs:= [.val 1002 (.bool true),.val 1006 (.bool true),.val 3000 (.bool false),.val 5000 (.bool false),.val 7000 (.bool true),.val 8004 (.bool true),.val 8009 (.bool false)]) (rs:= []) (by kernel_rfl) (All.cons (show CallT Try.prog 32 [zqI mn,zqI 0,zqI 4096] (AHeap.rows 23 [(0,.made [zqA k n d mn mx] 5 true)]) (AVal.bool true) (AHeap.rows 23 [(0,.made [zqA k n d mn mx] 5 true)])from⟨c0▸within_does mn (0) (4096) _⟩) (All.cons (eqT c1) (All.cons (eqF c2) (All.cons (eqF c3) (All.cons (eqT c4) (All.cons (show CallT Try.prog 32 [zqI n,zqI 0,zqI 1000] (AHeap.rows 43 [(0,.made [zqA k n d mn mx] 5 true)]) (AVal.bool true) (AHeap.rows 43 [(0,.made [zqA k n d mn mx] 5 true)])from⟨c5▸within_does n (0) (1000) _⟩) (All.cons (show CallT Try.prog 32 [zqI d,zqI 1,zqI 1000] (AHeap.rows 43 [(0,.made [zqA k n d mn mx] 5 true)]) (AVal.bool false) (AHeap.rows 43 [(0,.made [zqA k n d mn mx] 5 true)])from⟨Bool.eq_false_iff.2 c6▸within_does d (1) (1000) _⟩) (All.cons (show Agree [zqI n,zqI 0,zqI 1000] [zqI d,zqI 1,zqI 1000] (AHeap.rows 43 [(0,.made [zqA k n d mn mx] 5 true)]) (AHeap.rows 43 [(0,.made [zqA k n d mn mx] 5 true)]) (AVal.bool true) (AVal.bool false) (AHeap.rows 43 [(0,.made [zqA k n d mn mx] 5 true)]) (AHeap.rows 43 [(0,.made [zqA k n d mn mx] 5 true)])from⟨by intro hh _;first | (simp at hh;done) | (simp at hh;simp [hh]) | exact⟨rfl,rfl⟩⟩) (All.nil)))))))))
end
theorem refRight_does_8(c4:k=2)(c5: ¬ (withinB n (0) (1000)=true)) :
    FDoes Try.prog 13 [zqA k n d mn mx] (⟨0,.nil⟩) (AVal.bool false) (AHeap.rows 43 [(0,.made [zqA k n d mn mx] 5 true)]) :=
  pcall_does env_ok mixed (hs:= [.val 1002 (.bool true),.val 1006 (.bool true),.val 3000 (.bool false),.val 5000 (.bool false),.val 7000 (.bool true),.val 8004 (.bool false)]) (rs:= []) (by kernel_rfl) (All.cons (show CallT Try.prog 32 [zqI mn,zqI 0,zqI 4096] (AHeap.rows 23 [(0,.made [zqA k n d mn mx] 5 true)]) (AVal.bool true) (AHeap.rows 23 [(0,.made [zqA k n d mn mx] 5 true)])from⟨c0▸within_does mn (0) (4096) _⟩) (All.cons (eqT c1) (All.cons (eqF c2) (All.cons (eqF c3) (All.cons (eqT c4) (All.cons (show CallT Try.prog 32 [zqI n,zqI 0,zqI 1000] (AHeap.rows 43 [(0,.made [zqA k n d mn mx] 5 true)]) (AVal.bool false) (AHeap.rows 43 [(0,.made [zqA k n d mn mx] 5 true)])from⟨Bool.eq_false_iff.2 c5▸within_does n (0) (1000) _⟩) (All.nil)))))))
section
variable(c4: ¬ (k=2))(c5:k=3)(c6:withinB n (1) (1000)=true)
include c4 c5 c6
theorem refRight_does_9(c7:d=0) :
    FDoes Try.prog 13 [zqA k n d mn mx] (⟨0,.nil⟩) (AVal.bool true) (AHeap.rows 45 [(0,.made [zqA k n d mn mx] 5 true)]) :=
  pcall_does env_ok mixed (hs:= [.val 1002 (.bool true),.val 1006 (.bool true),.val 3000 (.bool false),.val 5000 (.bool false),.val 7000 (.bool false),.val 9000 (.bool true),.val 10004 (.bool true),.val 10009 (.bool true)]) (rs:= []) (by kernel_rfl) (All.cons (show CallT Try.prog 32 [zqI mn,zqI 0,zqI 4096] (AHeap.rows 23 [(0,.made [zqA k n d mn mx] 5 true)]) (AVal.bool true) (AHeap.rows 23 [(0,.made [zqA k n d mn mx] 5 true)])from⟨c0▸within_does mn (0) (4096) _⟩) (All.cons (eqT c1) (All.cons (eqF c2) (All.cons (eqF c3) (All.cons (eqF c4) (All.cons (eqT c5) (All.cons (show CallT Try.prog 32 [zqI n,zqI 1,zqI 1000] (AHeap.rows 45 [(0,.made [zqA k n d mn mx] 5 true)]) (AVal.bool true) (AHeap.rows 45 [(0,.made [zqA k n d mn mx] 5 true)])from⟨c6▸within_does n (1) (1000) _⟩) (All.cons (eqT c7) (All.nil)))))))))
theorem refRight_does_10(c7: ¬ (d=0)) :
    FDoes Try.prog 13 [zqA k n d mn mx] (⟨0,.nil⟩) (AVal.bool false) (AHeap.rows 45 [(0,.made [zqA k n d mn mx] 5 true)]) :=
  pcall_does env_ok mixed (hs:= [.val 1002 (.bool true),.val 1006 (.bool true),.val 3000 (.bool false),.val 5000 (.bool false),.val 7000 (.bool false),.val 9000 (.bool true),.val 10004 (.bool true),.val 10009 (.bool false)]) (rs:= []) (by kernel_rfl) (All.cons (show CallT Try.prog 32 [zqI mn,zqI 0,zqI 4096] (AHeap.rows 23 [(0,.made [zqA k n d mn mx] 5 true)]) (AVal.bool true) (AHeap.rows 23 [(0,.made [zqA k n d mn mx] 5 true)])from⟨c0▸within_does mn (0) (4096) _⟩) (All.cons (eqT c1) (All.cons (eqF c2) (All.cons (eqF c3) (All.cons (eqF c4) (All.cons (eqT c5) (All.cons (show CallT Try.prog 32 [zqI n,zqI 1,zqI 1000] (AHeap.rows 45 [(0,.made [zqA k n d mn mx] 5 true)]) (AVal.bool true) (AHeap.rows 45 [(0,.made [zqA k n d mn mx] 5 true)])from⟨c6▸within_does n (1) (1000) _⟩) (All.cons (eqF c7) (All.nil)))))))))
end
theorem refRight_does_11(c4: ¬ (k=2))(c5:k=3)(c6: ¬ (withinB n (1) (1000)=true)) :
    FDoes Try.prog 13 [zqA k n d mn mx] (⟨0,.nil⟩) (AVal.bool false) (AHeap.rows 45 [(0,.made [zqA k n d mn mx] 5 true)]) :=
  pcall_does env_ok mixed (hs:= [.val 1002 (.bool true),.val 1006 (.bool true),.val 3000 (.bool false),.val 5000 (.bool false),.val 7000 (.bool false),.val 9000 (.bool true),.val 10004 (.bool false)]) (rs:= []) (by kernel_rfl) (All.cons (show CallT Try.prog 32 [zqI mn,zqI 0,zqI 4096] (AHeap.rows 23 [(0,.made [zqA k n d mn mx] 5 true)]) (AVal.bool true) (AHeap.rows 23 [(0,.made [zqA k n d mn mx] 5 true)])from⟨c0▸within_does mn (0) (4096) _⟩) (All.cons (eqT c1) (All.cons (eqF c2) (All.cons (eqF c3) (All.cons (eqF c4) (All.cons (eqT c5) (All.cons (show CallT Try.prog 32 [zqI n,zqI 1,zqI 1000] (AHeap.rows 45 [(0,.made [zqA k n d mn mx] 5 true)]) (AVal.bool false) (AHeap.rows 45 [(0,.made [zqA k n d mn mx] 5 true)])from⟨Bool.eq_false_iff.2 c6▸within_does n (1) (1000) _⟩) (All.nil))))))))
theorem refRight_does_12(c4: ¬ (k=2))(c5: ¬ (k=3)) :
    FDoes Try.prog 13 [zqA k n d mn mx] (⟨0,.nil⟩) (AVal.bool false) (AHeap.rows 34 [(0,.made [zqA k n d mn mx] 5 true)]) :=
  pcall_does env_ok mixed (hs:= [.val 1002 (.bool true),.val 1006 (.bool true),.val 3000 (.bool false),.val 5000 (.bool false),.val 7000 (.bool false),.val 9000 (.bool false)]) (rs:= []) (by kernel_rfl) (All.cons (show CallT Try.prog 32 [zqI mn,zqI 0,zqI 4096] (AHeap.rows 23 [(0,.made [zqA k n d mn mx] 5 true)]) (AVal.bool true) (AHeap.rows 23 [(0,.made [zqA k n d mn mx] 5 true)])from⟨c0▸within_does mn (0) (4096) _⟩) (All.cons (eqT c1) (All.cons (eqF c2) (All.cons (eqF c3) (All.cons (eqF c4) (All.cons (eqF c5) (All.nil)))))))
end
end
end
section
variable(c1: ¬ (mx=0))(c2:withinB mx (1) (4096)=true)
include c1 c2
section
variable(c3:mx≥mn)
include c3
theorem refRight_does_13(c5:k=0)(c6:n=0)(c7:d=0) :
    FDoes Try.prog 13 [zqA k n d mn mx] (⟨0,.nil⟩) (AVal.bool true) (AHeap.rows 39 [(0,.made [zqA k n d mn mx] 5 true)]) :=
  pcall_does env_ok mixed (hs:= [.val 1002 (.bool true),.val 1006 (.bool false),.val 1010 (.bool true),.val 1016 (.bool true),.val 3000 (.bool true),.val 4004 (.bool true),.val 4009 (.bool true)]) (rs:= []) (by kernel_rfl) (All.cons (show CallT Try.prog 32 [zqI mn,zqI 0,zqI 4096] (AHeap.rows 23 [(0,.made [zqA k n d mn mx] 5 true)]) (AVal.bool true) (AHeap.rows 23 [(0,.made [zqA k n d mn mx] 5 true)])from⟨c0▸within_does mn (0) (4096) _⟩) (All.cons (eqF c1) (All.cons (show CallT Try.prog 32 [zqI mx,zqI 1,zqI 4096] (AHeap.rows 23 [(0,.made [zqA k n d mn mx] 5 true)]) (AVal.bool true) (AHeap.rows 23 [(0,.made [zqA k n d mn mx] 5 true)])from⟨c2▸within_does mx (1) (4096) _⟩) (All.cons (okT c3) (All.cons (show Agree [zqI mn,zqI 0,zqI 4096] [zqI mx,zqI 1,zqI 4096] (AHeap.rows 23 [(0,.made [zqA k n d mn mx] 5 true)]) (AHeap.rows 23 [(0,.made [zqA k n d mn mx] 5 true)]) (AVal.bool true) (AVal.bool true) (AHeap.rows 23 [(0,.made [zqA k n d mn mx] 5 true)]) (AHeap.rows 23 [(0,.made [zqA k n d mn mx] 5 true)])from⟨by intro hh _;first | (simp at hh;done) | (simp at hh;simp [hh]) | exact⟨rfl,rfl⟩⟩) (All.cons (eqT c5) (All.cons (eqT c6) (All.cons (eqT c7) (All.nil)))))))))
theorem refRight_does_14(c5:k=0)(c6:n=0)(c7: ¬ (d=0)) :
    FDoes Try.prog 13 [zqA k n d mn mx] (⟨0,.nil⟩) (AVal.bool false) (AHeap.rows 39 [(0,.made [zqA k n d mn mx] 5 true)]) :=
  pcall_does env_ok mixed (hs:= [.val 1002 (.bool true),.val 1006 (.bool false),.val 1010 (.bool true),.val 1016 (.bool true),.val 3000 (.bool true),.val 4004 (.bool true),.val 4009 (.bool false)]) (rs:= []) (by kernel_rfl) (All.cons (show CallT Try.prog 32 [zqI mn,zqI 0,zqI 4096] (AHeap.rows 23 [(0,.made [zqA k n d mn mx] 5 true)]) (AVal.bool true) (AHeap.rows 23 [(0,.made [zqA k n d mn mx] 5 true)])from⟨c0▸within_does mn (0) (4096) _⟩) (All.cons (eqF c1) (All.cons (show CallT Try.prog 32 [zqI mx,zqI 1,zqI 4096] (AHeap.rows 23 [(0,.made [zqA k n d mn mx] 5 true)]) (AVal.bool true) (AHeap.rows 23 [(0,.made [zqA k n d mn mx] 5 true)])from⟨c2▸within_does mx (1) (4096) _⟩) (All.cons (okT c3) (All.cons (show Agree [zqI mn,zqI 0,zqI 4096] [zqI mx,zqI 1,zqI 4096] (AHeap.rows 23 [(0,.made [zqA k n d mn mx] 5 true)]) (AHeap.rows 23 [(0,.made [zqA k n d mn mx] 5 true)]) (AVal.bool true) (AVal.bool true) (AHeap.rows 23 [(0,.made [zqA k n d mn mx] 5 true)]) (AHeap.rows 23 [(0,.made [zqA k n d mn mx] 5 true)])from⟨by intro hh _;first | (simp at hh;done) | (simp at hh;simp [hh]) | exact⟨rfl,rfl⟩⟩) (All.cons (eqT c5) (All.cons (eqT c6) (All.cons (eqF c7) (All.nil)))))))))
theorem refRight_does_15(c5:k=0)(c6: ¬ (n=0)) :
    FDoes Try.prog 13 [zqA k n d mn mx] (⟨0,.nil⟩) (AVal.bool false) (AHeap.rows 39 [(0,.made [zqA k n d mn mx] 5 true)]) :=
  pcall_does env_ok mixed (hs:= [.val 1002 (.bool true),.val 1006 (.bool false),.val 1010 (.bool true),.val 1016 (.bool true),.val 3000 (.bool true),.val 4004 (.bool false)]) (rs:= []) (by kernel_rfl) (All.cons (show CallT Try.prog 32 [zqI mn,zqI 0,zqI 4096] (AHeap.rows 23 [(0,.made [zqA k n d mn mx] 5 true)]) (AVal.bool true) (AHeap.rows 23 [(0,.made [zqA k n d mn mx] 5 true)])from⟨c0▸within_does mn (0) (4096) _⟩) (All.cons (eqF c1) (All.cons (show CallT Try.prog 32 [zqI mx,zqI 1,zqI 4096] (AHeap.rows 23 [(0,.made [zqA k n d mn mx] 5 true)]) (AVal.bool true) (AHeap.rows 23 [(0,.made [zqA k n d mn mx] 5 true)])from⟨c2▸within_does mx (1) (4096) _⟩) (All.cons (okT c3) (All.cons (show Agree [zqI mn,zqI 0,zqI 4096] [zqI mx,zqI 1,zqI 4096] (AHeap.rows 23 [(0,.made [zqA k n d mn mx] 5 true)]) (AHeap.rows 23 [(0,.made [zqA k n d mn mx] 5 true)]) (AVal.bool true) (AVal.bool true) (AHeap.rows 23 [(0,.made [zqA k n d mn mx] 5 true)]) (AHeap.rows 23 [(0,.made [zqA k n d mn mx] 5 true)])from⟨by intro hh _;first | (simp at hh;done) | (simp at hh;simp [hh]) | exact⟨rfl,rfl⟩⟩) (All.cons (eqT c5) (All.cons (eqF c6) (All.nil))))))))
section
variable(c5: ¬ (k=0))
include c5
section
variable(c6:k=1)(c7:withinB n (0) (4096)=true)
include c6 c7
theorem refRight_does_16(c8:d=0) :
    FDoes Try.prog 13 [zqA k n d mn mx] (⟨0,.nil⟩) (AVal.bool true) (AHeap.rows 41 [(0,.made [zqA k n d mn mx] 5 true)]) :=
  pcall_does env_ok mixed (hs:= [.val 1002 (.bool true),.val 1006 (.bool false),.val 1010 (.bool true),.val 1016 (.bool true),.val 3000 (.bool false),.val 5000 (.bool true),.val 6004 (.bool true),.val 6009 (.bool true)]) (rs:= []) (by kernel_rfl) (All.cons (show CallT Try.prog 32 [zqI mn,zqI 0,zqI 4096] (AHeap.rows 23 [(0,.made [zqA k n d mn mx] 5 true)]) (AVal.bool true) (AHeap.rows 23 [(0,.made [zqA k n d mn mx] 5 true)])from⟨c0▸within_does mn (0) (4096) _⟩) (All.cons (eqF c1) (All.cons (show CallT Try.prog 32 [zqI mx,zqI 1,zqI 4096] (AHeap.rows 23 [(0,.made [zqA k n d mn mx] 5 true)]) (AVal.bool true) (AHeap.rows 23 [(0,.made [zqA k n d mn mx] 5 true)])from⟨c2▸within_does mx (1) (4096) _⟩) (All.cons (okT c3) (All.cons (show Agree [zqI mn,zqI 0,zqI 4096] [zqI mx,zqI 1,zqI 4096] (AHeap.rows 23 [(0,.made [zqA k n d mn mx] 5 true)]) (AHeap.rows 23 [(0,.made [zqA k n d mn mx] 5 true)]) (AVal.bool true) (AVal.bool true) (AHeap.rows 23 [(0,.made [zqA k n d mn mx] 5 true)]) (AHeap.rows 23 [(0,.made [zqA k n d mn mx] 5 true)])from⟨by intro hh _;first | (simp at hh;done) | (simp at hh;simp [hh]) | exact⟨rfl,rfl⟩⟩) (All.cons (eqF c5) (All.cons (eqT c6) (All.cons (show CallT Try.prog 32 [zqI n,zqI 0,zqI 4096] (AHeap.rows 41 [(0,.made [zqA k n d mn mx] 5 true)]) (AVal.bool true) (AHeap.rows 41 [(0,.made [zqA k n d mn mx] 5 true)])from⟨c7▸within_does n (0) (4096) _⟩) (All.cons (eqT c8) (All.nil))))))))))
theorem refRight_does_17(c8: ¬ (d=0)) :
    FDoes Try.prog 13 [zqA k n d mn mx] (⟨0,.nil⟩) (AVal.bool false) (AHeap.rows 41 [(0,.made [zqA k n d mn mx] 5 true)]) :=
  pcall_does env_ok mixed (hs:= [.val 1002 (.bool true),.val 1006 (.bool false),.val 1010 (.bool true),.val 1016 (.bool true),.val 3000 (.bool false),.val 5000 (.bool true),.val 6004 (.bool true),.val 6009 (.bool false)]) (rs:= []) (by kernel_rfl) (All.cons (show CallT Try.prog 32 [zqI mn,zqI 0,zqI 4096] (AHeap.rows 23 [(0,.made [zqA k n d mn mx] 5 true)]) (AVal.bool true) (AHeap.rows 23 [(0,.made [zqA k n d mn mx] 5 true)])from⟨c0▸within_does mn (0) (4096) _⟩) (All.cons (eqF c1) (All.cons (show CallT Try.prog 32 [zqI mx,zqI 1,zqI 4096] (AHeap.rows 23 [(0,.made [zqA k n d mn mx] 5 true)]) (AVal.bool true) (AHeap.rows 23 [(0,.made [zqA k n d mn mx] 5 true)])from⟨c2▸within_does mx (1) (4096) _⟩) (All.cons (okT c3) (All.cons (show Agree [zqI mn,zqI 0,zqI 4096] [zqI mx,zqI 1,zqI 4096] (AHeap.rows 23 [(0,.made [zqA k n d mn mx] 5 true)]) (AHeap.rows 23 [(0,.made [zqA k n d mn mx] 5 true)]) (AVal.bool true) (AVal.bool true) (AHeap.rows 23 [(0,.made [zqA k n d mn mx] 5 true)]) (AHeap.rows 23 [(0,.made [zqA k n d mn mx] 5 true)])from⟨by intro hh _;first | (simp at hh;done) | (simp at hh;simp [hh]) | exact⟨rfl,rfl⟩⟩) (All.cons (eqF c5) (All.cons (eqT c6) (All.cons (show CallT Try.prog 32 [zqI n,zqI 0,zqI 4096] (AHeap.rows 41 [(0,.made [zqA k n d mn mx] 5 true)]) (AVal.bool true) (AHeap.rows 41 [(0,.made [zqA k n d mn mx] 5 true)])from⟨c7▸within_does n (0) (4096) _⟩) (All.cons (eqF c8) (All.nil))))))))))
end
theorem refRight_does_18(c6:k=1)(c7: ¬ (withinB n (0) (4096)=true)) :
    FDoes Try.prog 13 [zqA k n d mn mx] (⟨0,.nil⟩) (AVal.bool false) (AHeap.rows 41 [(0,.made [zqA k n d mn mx] 5 true)]) :=
  pcall_does env_ok mixed (hs:= [.val 1002 (.bool true),.val 1006 (.bool false),.val 1010 (.bool true),.val 1016 (.bool true),.val 3000 (.bool false),.val 5000 (.bool true),.val 6004 (.bool false)]) (rs:= []) (by kernel_rfl) (All.cons (show CallT Try.prog 32 [zqI mn,zqI 0,zqI 4096] (AHeap.rows 23 [(0,.made [zqA k n d mn mx] 5 true)]) (AVal.bool true) (AHeap.rows 23 [(0,.made [zqA k n d mn mx] 5 true)])from⟨c0▸within_does mn (0) (4096) _⟩) (All.cons (eqF c1) (All.cons (show CallT Try.prog 32 [zqI mx,zqI 1,zqI 4096] (AHeap.rows 23 [(0,.made [zqA k n d mn mx] 5 true)]) (AVal.bool true) (AHeap.rows 23 [(0,.made [zqA k n d mn mx] 5 true)])from⟨c2▸within_does mx (1) (4096) _⟩) (All.cons (okT c3) (All.cons (show Agree [zqI mn,zqI 0,zqI 4096] [zqI mx,zqI 1,zqI 4096] (AHeap.rows 23 [(0,.made [zqA k n d mn mx] 5 true)]) (AHeap.rows 23 [(0,.made [zqA k n d mn mx] 5 true)]) (AVal.bool true) (AVal.bool true) (AHeap.rows 23 [(0,.made [zqA k n d mn mx] 5 true)]) (AHeap.rows 23 [(0,.made [zqA k n d mn mx] 5 true)])from⟨by intro hh _;first | (simp at hh;done) | (simp at hh;simp [hh]) | exact⟨rfl,rfl⟩⟩) (All.cons (eqF c5) (All.cons (eqT c6) (All.cons (show CallT Try.prog 32 [zqI n,zqI 0,zqI 4096] (AHeap.rows 41 [(0,.made [zqA k n d mn mx] 5 true)]) (AVal.bool false) (AHeap.rows 41 [(0,.made [zqA k n d mn mx] 5 true)])from⟨Bool.eq_false_iff.2 c7▸within_does n (0) (4096) _⟩) (All.nil)))))))))
section
variable(c6: ¬ (k=1))
include c6
section
variable(c7:k=2)(c8:withinB n (0) (1000)=true)
include c7 c8
theorem refRight_does_19(c9:withinB d (1) (1000)=true) :
    FDoes Try.prog 13 [zqA k n d mn mx] (⟨0,.nil⟩) (AVal.bool true) (AHeap.rows 43 [(0,.made [zqA k n d mn mx] 5 true)]) :=
  pcall_does env_ok mixed (hs:= [.val 1002 (.bool true),.val 1006 (.bool false),.val 1010 (.bool true),.val 1016 (.bool true),.val 3000 (.bool false),.val 5000 (.bool false),.val 7000 (.bool true),.val 8004 (.bool true),.val 8009 (.bool true)]) (rs:= []) (by kernel_rfl) (All.cons (show CallT Try.prog 32 [zqI mn,zqI 0,zqI 4096] (AHeap.rows 23 [(0,.made [zqA k n d mn mx] 5 true)]) (AVal.bool true) (AHeap.rows 23 [(0,.made [zqA k n d mn mx] 5 true)])from⟨c0▸within_does mn (0) (4096) _⟩) (All.cons (eqF c1) (All.cons (show CallT Try.prog 32 [zqI mx,zqI 1,zqI 4096] (AHeap.rows 23 [(0,.made [zqA k n d mn mx] 5 true)]) (AVal.bool true) (AHeap.rows 23 [(0,.made [zqA k n d mn mx] 5 true)])from⟨c2▸within_does mx (1) (4096) _⟩) (All.cons (okT c3) (All.cons (show Agree [zqI mn,zqI 0,zqI 4096] [zqI mx,zqI 1,zqI 4096] (AHeap.rows 23 [(0,.made [zqA k n d mn mx] 5 true)]) (AHeap.rows 23 [(0,.made [zqA k n d mn mx] 5 true)]) (AVal.bool true) (AVal.bool true) (AHeap.rows 23 [(0,.made [zqA k n d mn mx] 5 true)]) (AHeap.rows 23 [(0,.made [zqA k n d mn mx] 5 true)])from⟨by intro hh _;first | (simp at hh;done) | (simp at hh;simp [hh]) | exact⟨rfl,rfl⟩⟩) (All.cons (eqF c5) (All.cons (eqF c6) (All.cons (eqT c7) (All.cons (show CallT Try.prog 32 [zqI n,zqI 0,zqI 1000] (AHeap.rows 43 [(0,.made [zqA k n d mn mx] 5 true)]) (AVal.bool true) (AHeap.rows 43 [(0,.made [zqA k n d mn mx] 5 true)])from⟨c8▸within_does n (0) (1000) _⟩) (All.cons (show CallT Try.prog 32 [zqI d,zqI 1,zqI 1000] (AHeap.rows 43 [(0,.made [zqA k n d mn mx] 5 true)]) (AVal.bool true) (AHeap.rows 43 [(0,.made [zqA k n d mn mx] 5 true)])from⟨c9▸within_does d (1) (1000) _⟩) (All.cons (show Agree [zqI n,zqI 0,zqI 1000] [zqI d,zqI 1,zqI 1000] (AHeap.rows 43 [(0,.made [zqA k n d mn mx] 5 true)]) (AHeap.rows 43 [(0,.made [zqA k n d mn mx] 5 true)]) (AVal.bool true) (AVal.bool true) (AHeap.rows 43 [(0,.made [zqA k n d mn mx] 5 true)]) (AHeap.rows 43 [(0,.made [zqA k n d mn mx] 5 true)])from⟨by intro hh _;first | (simp at hh;done) | (simp at hh;simp [hh]) | exact⟨rfl,rfl⟩⟩) (All.nil))))))))))))
theorem refRight_does_20(c9: ¬ (withinB d (1) (1000)=true)) :
    FDoes Try.prog 13 [zqA k n d mn mx] (⟨0,.nil⟩) (AVal.bool false) (AHeap.rows 43 [(0,.made [zqA k n d mn mx] 5 true)]) :=
  pcall_does env_ok mixed (hs:= [.val 1002 (.bool true),.val 1006 (.bool false),.val 1010 (.bool true),.val 1016 (.bool true),.val 3000 (.bool false),.val 5000 (.bool false),.val 7000 (.bool true),.val 8004 (.bool true),.val 8009 (.bool false)]) (rs:= []) (by kernel_rfl) (All.cons (show CallT Try.prog 32 [zqI mn,zqI 0,zqI 4096] (AHeap.rows 23 [(0,.made [zqA k n d mn mx] 5 true)]) (AVal.bool true) (AHeap.rows 23 [(0,.made [zqA k n d mn mx] 5 true)])from⟨c0▸within_does mn (0) (4096) _⟩) (All.cons (eqF c1) (All.cons (show CallT Try.prog 32 [zqI mx,zqI 1,zqI 4096] (AHeap.rows 23 [(0,.made [zqA k n d mn mx] 5 true)]) (AVal.bool true) (AHeap.rows 23 [(0,.made [zqA k n d mn mx] 5 true)])from⟨c2▸within_does mx (1) (4096) _⟩) (All.cons (okT c3) (All.cons (show Agree [zqI mn,zqI 0,zqI 4096] [zqI mx,zqI 1,zqI 4096] (AHeap.rows 23 [(0,.made [zqA k n d mn mx] 5 true)]) (AHeap.rows 23 [(0,.made [zqA k n d mn mx] 5 true)]) (AVal.bool true) (AVal.bool true) (AHeap.rows 23 [(0,.made [zqA k n d mn mx] 5 true)]) (AHeap.rows 23 [(0,.made [zqA k n d mn mx] 5 true)])from⟨by intro hh _;first | (simp at hh;done) | (simp at hh;simp [hh]) | exact⟨rfl,rfl⟩⟩) (All.cons (eqF c5) (All.cons (eqF c6) (All.cons (eqT c7) (All.cons (show CallT Try.prog 32 [zqI n,zqI 0,zqI 1000] (AHeap.rows 43 [(0,.made [zqA k n d mn mx] 5 true)]) (AVal.bool true) (AHeap.rows 43 [(0,.made [zqA k n d mn mx] 5 true)])from⟨c8▸within_does n (0) (1000) _⟩) (All.cons (show CallT Try.prog 32 [zqI d,zqI 1,zqI 1000] (AHeap.rows 43 [(0,.made [zqA k n d mn mx] 5 true)]) (AVal.bool false) (AHeap.rows 43 [(0,.made [zqA k n d mn mx] 5 true)])from⟨Bool.eq_false_iff.2 c9▸within_does d (1) (1000) _⟩) (All.cons (show Agree [zqI n,zqI 0,zqI 1000] [zqI d,zqI 1,zqI 1000] (AHeap.rows 43 [(0,.made [zqA k n d mn mx] 5 true)]) (AHeap.rows 43 [(0,.made [zqA k n d mn mx] 5 true)]) (AVal.bool true) (AVal.bool false) (AHeap.rows 43 [(0,.made [zqA k n d mn mx] 5 true)]) (AHeap.rows 43 [(0,.made [zqA k n d mn mx] 5 true)])from⟨by intro hh _;first | (simp at hh;done) | (simp at hh;simp [hh]) | exact⟨rfl,rfl⟩⟩) (All.nil))))))))))))
end
theorem refRight_does_21(c7:k=2)(c8: ¬ (withinB n (0) (1000)=true)) :
    FDoes Try.prog 13 [zqA k n d mn mx] (⟨0,.nil⟩) (AVal.bool false) (AHeap.rows 43 [(0,.made [zqA k n d mn mx] 5 true)]) :=
  pcall_does env_ok mixed (hs:= [.val 1002 (.bool true),.val 1006 (.bool false),.val 1010 (.bool true),.val 1016 (.bool true),.val 3000 (.bool false),.val 5000 (.bool false),.val 7000 (.bool true),.val 8004 (.bool false)]) (rs:= []) (by kernel_rfl) (All.cons (show CallT Try.prog 32 [zqI mn,zqI 0,zqI 4096] (AHeap.rows 23 [(0,.made [zqA k n d mn mx] 5 true)]) (AVal.bool true) (AHeap.rows 23 [(0,.made [zqA k n d mn mx] 5 true)])from⟨c0▸within_does mn (0) (4096) _⟩) (All.cons (eqF c1) (All.cons (show CallT Try.prog 32 [zqI mx,zqI 1,zqI 4096] (AHeap.rows 23 [(0,.made [zqA k n d mn mx] 5 true)]) (AVal.bool true) (AHeap.rows 23 [(0,.made [zqA k n d mn mx] 5 true)])from⟨c2▸within_does mx (1) (4096) _⟩) (All.cons (okT c3) (All.cons (show Agree [zqI mn,zqI 0,zqI 4096] [zqI mx,zqI 1,zqI 4096] (AHeap.rows 23 [(0,.made [zqA k n d mn mx] 5 true)]) (AHeap.rows 23 [(0,.made [zqA k n d mn mx] 5 true)]) (AVal.bool true) (AVal.bool true) (AHeap.rows 23 [(0,.made [zqA k n d mn mx] 5 true)]) (AHeap.rows 23 [(0,.made [zqA k n d mn mx] 5 true)])from⟨by intro hh _;first | (simp at hh;done) | (simp at hh;simp [hh]) | exact⟨rfl,rfl⟩⟩) (All.cons (eqF c5) (All.cons (eqF c6) (All.cons (eqT c7) (All.cons (show CallT Try.prog 32 [zqI n,zqI 0,zqI 1000] (AHeap.rows 43 [(0,.made [zqA k n d mn mx] 5 true)]) (AVal.bool false) (AHeap.rows 43 [(0,.made [zqA k n d mn mx] 5 true)])from⟨Bool.eq_false_iff.2 c8▸within_does n (0) (1000) _⟩) (All.nil))))))))))
section
variable(c7: ¬ (k=2))(c8:k=3)(c9:withinB n (1) (1000)=true)
include c7 c8 c9
theorem refRight_does_22(c10:d=0) :
    FDoes Try.prog 13 [zqA k n d mn mx] (⟨0,.nil⟩) (AVal.bool true) (AHeap.rows 45 [(0,.made [zqA k n d mn mx] 5 true)]) :=
  pcall_does env_ok mixed (hs:= [.val 1002 (.bool true),.val 1006 (.bool false),.val 1010 (.bool true),.val 1016 (.bool true),.val 3000 (.bool false),.val 5000 (.bool false),.val 7000 (.bool false),.val 9000 (.bool true),.val 10004 (.bool true),.val 10009 (.bool true)]) (rs:= []) (by kernel_rfl) (All.cons (show CallT Try.prog 32 [zqI mn,zqI 0,zqI 4096] (AHeap.rows 23 [(0,.made [zqA k n d mn mx] 5 true)]) (AVal.bool true) (AHeap.rows 23 [(0,.made [zqA k n d mn mx] 5 true)])from⟨c0▸within_does mn (0) (4096) _⟩) (All.cons (eqF c1) (All.cons (show CallT Try.prog 32 [zqI mx,zqI 1,zqI 4096] (AHeap.rows 23 [(0,.made [zqA k n d mn mx] 5 true)]) (AVal.bool true) (AHeap.rows 23 [(0,.made [zqA k n d mn mx] 5 true)])from⟨c2▸within_does mx (1) (4096) _⟩) (All.cons (okT c3) (All.cons (show Agree [zqI mn,zqI 0,zqI 4096] [zqI mx,zqI 1,zqI 4096] (AHeap.rows 23 [(0,.made [zqA k n d mn mx] 5 true)]) (AHeap.rows 23 [(0,.made [zqA k n d mn mx] 5 true)]) (AVal.bool true) (AVal.bool true) (AHeap.rows 23 [(0,.made [zqA k n d mn mx] 5 true)]) (AHeap.rows 23 [(0,.made [zqA k n d mn mx] 5 true)])from⟨by intro hh _;first | (simp at hh;done) | (simp at hh;simp [hh]) | exact⟨rfl,rfl⟩⟩) (All.cons (eqF c5) (All.cons (eqF c6) (All.cons (eqF c7) (All.cons (eqT c8) (All.cons (show CallT Try.prog 32 [zqI n,zqI 1,zqI 1000] (AHeap.rows 45 [(0,.made [zqA k n d mn mx] 5 true)]) (AVal.bool true) (AHeap.rows 45 [(0,.made [zqA k n d mn mx] 5 true)])from⟨c9▸within_does n (1) (1000) _⟩) (All.cons (eqT c10) (All.nil))))))))))))
theorem refRight_does_23(c10: ¬ (d=0)) :
    FDoes Try.prog 13 [zqA k n d mn mx] (⟨0,.nil⟩) (AVal.bool false) (AHeap.rows 45 [(0,.made [zqA k n d mn mx] 5 true)]) :=
  pcall_does env_ok mixed (hs:= [.val 1002 (.bool true),.val 1006 (.bool false),.val 1010 (.bool true),.val 1016 (.bool true),.val 3000 (.bool false),.val 5000 (.bool false),.val 7000 (.bool false),.val 9000 (.bool true),.val 10004 (.bool true),.val 10009 (.bool false)]) (rs:= []) (by kernel_rfl) (All.cons (show CallT Try.prog 32 [zqI mn,zqI 0,zqI 4096] (AHeap.rows 23 [(0,.made [zqA k n d mn mx] 5 true)]) (AVal.bool true) (AHeap.rows 23 [(0,.made [zqA k n d mn mx] 5 true)])from⟨c0▸within_does mn (0) (4096) _⟩) (All.cons (eqF c1) (All.cons (show CallT Try.prog 32 [zqI mx,zqI 1,zqI 4096] (AHeap.rows 23 [(0,.made [zqA k n d mn mx] 5 true)]) (AVal.bool true) (AHeap.rows 23 [(0,.made [zqA k n d mn mx] 5 true)])from⟨c2▸within_does mx (1) (4096) _⟩) (All.cons (okT c3) (All.cons (show Agree [zqI mn,zqI 0,zqI 4096] [zqI mx,zqI 1,zqI 4096] (AHeap.rows 23 [(0,.made [zqA k n d mn mx] 5 true)]) (AHeap.rows 23 [(0,.made [zqA k n d mn mx] 5 true)]) (AVal.bool true) (AVal.bool true) (AHeap.rows 23 [(0,.made [zqA k n d mn mx] 5 true)]) (AHeap.rows 23 [(0,.made [zqA k n d mn mx] 5 true)])from⟨by intro hh _;first | (simp at hh;done) | (simp at hh;simp [hh]) | exact⟨rfl,rfl⟩⟩) (All.cons (eqF c5) (All.cons (eqF c6) (All.cons (eqF c7) (All.cons (eqT c8) (All.cons (show CallT Try.prog 32 [zqI n,zqI 1,zqI 1000] (AHeap.rows 45 [(0,.made [zqA k n d mn mx] 5 true)]) (AVal.bool true) (AHeap.rows 45 [(0,.made [zqA k n d mn mx] 5 true)])from⟨c9▸within_does n (1) (1000) _⟩) (All.cons (eqF c10) (All.nil))))))))))))
end
theorem refRight_does_24(c7: ¬ (k=2))(c8:k=3)(c9: ¬ (withinB n (1) (1000)=true)) :
    FDoes Try.prog 13 [zqA k n d mn mx] (⟨0,.nil⟩) (AVal.bool false) (AHeap.rows 45 [(0,.made [zqA k n d mn mx] 5 true)]) :=
  pcall_does env_ok mixed (hs:= [.val 1002 (.bool true),.val 1006 (.bool false),.val 1010 (.bool true),.val 1016 (.bool true),.val 3000 (.bool false),.val 5000 (.bool false),.val 7000 (.bool false),.val 9000 (.bool true),.val 10004 (.bool false)]) (rs:= []) (by kernel_rfl) (All.cons (show CallT Try.prog 32 [zqI mn,zqI 0,zqI 4096] (AHeap.rows 23 [(0,.made [zqA k n d mn mx] 5 true)]) (AVal.bool true) (AHeap.rows 23 [(0,.made [zqA k n d mn mx] 5 true)])from⟨c0▸within_does mn (0) (4096) _⟩) (All.cons (eqF c1) (All.cons (show CallT Try.prog 32 [zqI mx,zqI 1,zqI 4096] (AHeap.rows 23 [(0,.made [zqA k n d mn mx] 5 true)]) (AVal.bool true) (AHeap.rows 23 [(0,.made [zqA k n d mn mx] 5 true)])from⟨c2▸within_does mx (1) (4096) _⟩) (All.cons (okT c3) (All.cons (show Agree [zqI mn,zqI 0,zqI 4096] [zqI mx,zqI 1,zqI 4096] (AHeap.rows 23 [(0,.made [zqA k n d mn mx] 5 true)]) (AHeap.rows 23 [(0,.made [zqA k n d mn mx] 5 true)]) (AVal.bool true) (AVal.bool true) (AHeap.rows 23 [(0,.made [zqA k n d mn mx] 5 true)]) (AHeap.rows 23 [(0,.made [zqA k n d mn mx] 5 true)])from⟨by intro hh _;first | (simp at hh;done) | (simp at hh;simp [hh]) | exact⟨rfl,rfl⟩⟩) (All.cons (eqF c5) (All.cons (eqF c6) (All.cons (eqF c7) (All.cons (eqT c8) (All.cons (show CallT Try.prog 32 [zqI n,zqI 1,zqI 1000] (AHeap.rows 45 [(0,.made [zqA k n d mn mx] 5 true)]) (AVal.bool false) (AHeap.rows 45 [(0,.made [zqA k n d mn mx] 5 true)])from⟨Bool.eq_false_iff.2 c9▸within_does n (1) (1000) _⟩) (All.nil)))))))))))
theorem refRight_does_25(c7: ¬ (k=2))(c8: ¬ (k=3)) :
    FDoes Try.prog 13 [zqA k n d mn mx] (⟨0,.nil⟩) (AVal.bool false) (AHeap.rows 34 [(0,.made [zqA k n d mn mx] 5 true)]) :=
  pcall_does env_ok mixed (hs:= [.val 1002 (.bool true),.val 1006 (.bool false),.val 1010 (.bool true),.val 1016 (.bool true),.val 3000 (.bool false),.val 5000 (.bool false),.val 7000 (.bool false),.val 9000 (.bool false)]) (rs:= []) (by kernel_rfl) (All.cons (show CallT Try.prog 32 [zqI mn,zqI 0,zqI 4096] (AHeap.rows 23 [(0,.made [zqA k n d mn mx] 5 true)]) (AVal.bool true) (AHeap.rows 23 [(0,.made [zqA k n d mn mx] 5 true)])from⟨c0▸within_does mn (0) (4096) _⟩) (All.cons (eqF c1) (All.cons (show CallT Try.prog 32 [zqI mx,zqI 1,zqI 4096] (AHeap.rows 23 [(0,.made [zqA k n d mn mx] 5 true)]) (AVal.bool true) (AHeap.rows 23 [(0,.made [zqA k n d mn mx] 5 true)])from⟨c2▸within_does mx (1) (4096) _⟩) (All.cons (okT c3) (All.cons (show Agree [zqI mn,zqI 0,zqI 4096] [zqI mx,zqI 1,zqI 4096] (AHeap.rows 23 [(0,.made [zqA k n d mn mx] 5 true)]) (AHeap.rows 23 [(0,.made [zqA k n d mn mx] 5 true)]) (AVal.bool true) (AVal.bool true) (AHeap.rows 23 [(0,.made [zqA k n d mn mx] 5 true)]) (AHeap.rows 23 [(0,.made [zqA k n d mn mx] 5 true)])from⟨by intro hh _;first | (simp at hh;done) | (simp at hh;simp [hh]) | exact⟨rfl,rfl⟩⟩) (All.cons (eqF c5) (All.cons (eqF c6) (All.cons (eqF c7) (All.cons (eqF c8) (All.nil))))))))))
end
end
end
section
variable(c3: ¬ (mx≥mn))
include c3
theorem refRight_does_26(c5:k=0) :
    FDoes Try.prog 13 [zqA k n d mn mx] (⟨0,.nil⟩) (AVal.bool false) (AHeap.rows 39 [(0,.made [zqA k n d mn mx] 5 true)]) :=
  pcall_does env_ok mixed (hs:= [.val 1002 (.bool true),.val 1006 (.bool false),.val 1010 (.bool true),.val 1016 (.bool false),.val 3000 (.bool true)]) (rs:= []) (by kernel_rfl) (All.cons (show CallT Try.prog 32 [zqI mn,zqI 0,zqI 4096] (AHeap.rows 23 [(0,.made [zqA k n d mn mx] 5 true)]) (AVal.bool true) (AHeap.rows 23 [(0,.made [zqA k n d mn mx] 5 true)])from⟨c0▸within_does mn (0) (4096) _⟩) (All.cons (eqF c1) (All.cons (show CallT Try.prog 32 [zqI mx,zqI 1,zqI 4096] (AHeap.rows 23 [(0,.made [zqA k n d mn mx] 5 true)]) (AVal.bool true) (AHeap.rows 23 [(0,.made [zqA k n d mn mx] 5 true)])from⟨c2▸within_does mx (1) (4096) _⟩) (All.cons (okF c3) (All.cons (show Agree [zqI mn,zqI 0,zqI 4096] [zqI mx,zqI 1,zqI 4096] (AHeap.rows 23 [(0,.made [zqA k n d mn mx] 5 true)]) (AHeap.rows 23 [(0,.made [zqA k n d mn mx] 5 true)]) (AVal.bool true) (AVal.bool true) (AHeap.rows 23 [(0,.made [zqA k n d mn mx] 5 true)]) (AHeap.rows 23 [(0,.made [zqA k n d mn mx] 5 true)])from⟨by intro hh _;first | (simp at hh;done) | (simp at hh;simp [hh]) | exact⟨rfl,rfl⟩⟩) (All.cons (eqT c5) (All.nil)))))))
section
variable(c5: ¬ (k=0))
include c5
theorem refRight_does_27(c6:k=1) :
    FDoes Try.prog 13 [zqA k n d mn mx] (⟨0,.nil⟩) (AVal.bool false) (AHeap.rows 41 [(0,.made [zqA k n d mn mx] 5 true)]) :=
  pcall_does env_ok mixed (hs:= [.val 1002 (.bool true),.val 1006 (.bool false),.val 1010 (.bool true),.val 1016 (.bool false),.val 3000 (.bool false),.val 5000 (.bool true)]) (rs:= []) (by kernel_rfl) (All.cons (show CallT Try.prog 32 [zqI mn,zqI 0,zqI 4096] (AHeap.rows 23 [(0,.made [zqA k n d mn mx] 5 true)]) (AVal.bool true) (AHeap.rows 23 [(0,.made [zqA k n d mn mx] 5 true)])from⟨c0▸within_does mn (0) (4096) _⟩) (All.cons (eqF c1) (All.cons (show CallT Try.prog 32 [zqI mx,zqI 1,zqI 4096] (AHeap.rows 23 [(0,.made [zqA k n d mn mx] 5 true)]) (AVal.bool true) (AHeap.rows 23 [(0,.made [zqA k n d mn mx] 5 true)])from⟨c2▸within_does mx (1) (4096) _⟩) (All.cons (okF c3) (All.cons (show Agree [zqI mn,zqI 0,zqI 4096] [zqI mx,zqI 1,zqI 4096] (AHeap.rows 23 [(0,.made [zqA k n d mn mx] 5 true)]) (AHeap.rows 23 [(0,.made [zqA k n d mn mx] 5 true)]) (AVal.bool true) (AVal.bool true) (AHeap.rows 23 [(0,.made [zqA k n d mn mx] 5 true)]) (AHeap.rows 23 [(0,.made [zqA k n d mn mx] 5 true)])from⟨by intro hh _;first | (simp at hh;done) | (simp at hh;simp [hh]) | exact⟨rfl,rfl⟩⟩) (All.cons (eqF c5) (All.cons (eqT c6) (All.nil))))))))
theorem refRight_does_28(c6: ¬ (k=1))(c7:k=2) :
    FDoes Try.prog 13 [zqA k n d mn mx] (⟨0,.nil⟩) (AVal.bool false) (AHeap.rows 43 [(0,.made [zqA k n d mn mx] 5 true)]) :=
  pcall_does env_ok mixed (hs:= [.val 1002 (.bool true),.val 1006 (.bool false),.val 1010 (.bool true),.val 1016 (.bool false),.val 3000 (.bool false),.val 5000 (.bool false),.val 7000 (.bool true)]) (rs:= []) (by kernel_rfl) (All.cons (show CallT Try.prog 32 [zqI mn,zqI 0,zqI 4096] (AHeap.rows 23 [(0,.made [zqA k n d mn mx] 5 true)]) (AVal.bool true) (AHeap.rows 23 [(0,.made [zqA k n d mn mx] 5 true)])from⟨c0▸within_does mn (0) (4096) _⟩) (All.cons (eqF c1) (All.cons (show CallT Try.prog 32 [zqI mx,zqI 1,zqI 4096] (AHeap.rows 23 [(0,.made [zqA k n d mn mx] 5 true)]) (AVal.bool true) (AHeap.rows 23 [(0,.made [zqA k n d mn mx] 5 true)])from⟨c2▸within_does mx (1) (4096) _⟩) (All.cons (okF c3) (All.cons (show Agree [zqI mn,zqI 0,zqI 4096] [zqI mx,zqI 1,zqI 4096] (AHeap.rows 23 [(0,.made [zqA k n d mn mx] 5 true)]) (AHeap.rows 23 [(0,.made [zqA k n d mn mx] 5 true)]) (AVal.bool true) (AVal.bool true) (AHeap.rows 23 [(0,.made [zqA k n d mn mx] 5 true)]) (AHeap.rows 23 [(0,.made [zqA k n d mn mx] 5 true)])from⟨by intro hh _;first | (simp at hh;done) | (simp at hh;simp [hh]) | exact⟨rfl,rfl⟩⟩) (All.cons (eqF c5) (All.cons (eqF c6) (All.cons (eqT c7) (All.nil)))))))))
theorem refRight_does_29(c6: ¬ (k=1))(c7: ¬ (k=2))(c8:k=3) :
    FDoes Try.prog 13 [zqA k n d mn mx] (⟨0,.nil⟩) (AVal.bool false) (AHeap.rows 45 [(0,.made [zqA k n d mn mx] 5 true)]) :=
  pcall_does env_ok mixed (hs:= [.val 1002 (.bool true),.val 1006 (.bool false),.val 1010 (.bool true),.val 1016 (.bool false),.val 3000 (.bool false),.val 5000 (.bool false),.val 7000 (.bool false),.val 9000 (.bool true)]) (rs:= []) (by kernel_rfl) (All.cons (show CallT Try.prog 32 [zqI mn,zqI 0,zqI 4096] (AHeap.rows 23 [(0,.made [zqA k n d mn mx] 5 true)]) (AVal.bool true) (AHeap.rows 23 [(0,.made [zqA k n d mn mx] 5 true)])from⟨c0▸within_does mn (0) (4096) _⟩) (All.cons (eqF c1) (All.cons (show CallT Try.prog 32 [zqI mx,zqI 1,zqI 4096] (AHeap.rows 23 [(0,.made [zqA k n d mn mx] 5 true)]) (AVal.bool true) (AHeap.rows 23 [(0,.made [zqA k n d mn mx] 5 true)])from⟨c2▸within_does mx (1) (4096) _⟩) (All.cons (okF c3) (All.cons (show Agree [zqI mn,zqI 0,zqI 4096] [zqI mx,zqI 1,zqI 4096] (AHeap.rows 23 [(0,.made [zqA k n d mn mx] 5 true)]) (AHeap.rows 23 [(0,.made [zqA k n d mn mx] 5 true)]) (AVal.bool true) (AVal.bool true) (AHeap.rows 23 [(0,.made [zqA k n d mn mx] 5 true)]) (AHeap.rows 23 [(0,.made [zqA k n d mn mx] 5 true)])from⟨by intro hh _;first | (simp at hh;done) | (simp at hh;simp [hh]) | exact⟨rfl,rfl⟩⟩) (All.cons (eqF c5) (All.cons (eqF c6) (All.cons (eqF c7) (All.cons (eqT c8) (All.nil))))))))))
theorem refRight_does_30(c6: ¬ (k=1))(c7: ¬ (k=2))(c8: ¬ (k=3)) :
    FDoes Try.prog 13 [zqA k n d mn mx] (⟨0,.nil⟩) (AVal.bool false) (AHeap.rows 34 [(0,.made [zqA k n d mn mx] 5 true)]) :=
  pcall_does env_ok mixed (hs:= [.val 1002 (.bool true),.val 1006 (.bool false),.val 1010 (.bool true),.val 1016 (.bool false),.val 3000 (.bool false),.val 5000 (.bool false),.val 7000 (.bool false),.val 9000 (.bool false)]) (rs:= []) (by kernel_rfl) (All.cons (show CallT Try.prog 32 [zqI mn,zqI 0,zqI 4096] (AHeap.rows 23 [(0,.made [zqA k n d mn mx] 5 true)]) (AVal.bool true) (AHeap.rows 23 [(0,.made [zqA k n d mn mx] 5 true)])from⟨c0▸within_does mn (0) (4096) _⟩) (All.cons (eqF c1) (All.cons (show CallT Try.prog 32 [zqI mx,zqI 1,zqI 4096] (AHeap.rows 23 [(0,.made [zqA k n d mn mx] 5 true)]) (AVal.bool true) (AHeap.rows 23 [(0,.made [zqA k n d mn mx] 5 true)])from⟨c2▸within_does mx (1) (4096) _⟩) (All.cons (okF c3) (All.cons (show Agree [zqI mn,zqI 0,zqI 4096] [zqI mx,zqI 1,zqI 4096] (AHeap.rows 23 [(0,.made [zqA k n d mn mx] 5 true)]) (AHeap.rows 23 [(0,.made [zqA k n d mn mx] 5 true)]) (AVal.bool true) (AVal.bool true) (AHeap.rows 23 [(0,.made [zqA k n d mn mx] 5 true)]) (AHeap.rows 23 [(0,.made [zqA k n d mn mx] 5 true)])from⟨by intro hh _;first | (simp at hh;done) | (simp at hh;simp [hh]) | exact⟨rfl,rfl⟩⟩) (All.cons (eqF c5) (All.cons (eqF c6) (All.cons (eqF c7) (All.cons (eqF c8) (All.nil))))))))))
end
end
end
section
variable(c1: ¬ (mx=0))(c2: ¬ (withinB mx (1) (4096)=true))
include c1 c2
theorem refRight_does_31(c4:k=0) :
    FDoes Try.prog 13 [zqA k n d mn mx] (⟨0,.nil⟩) (AVal.bool false) (AHeap.rows 39 [(0,.made [zqA k n d mn mx] 5 true)]) :=
  pcall_does env_ok mixed (hs:= [.val 1002 (.bool true),.val 1006 (.bool false),.val 1010 (.bool false),.val 3000 (.bool true)]) (rs:= []) (by kernel_rfl) (All.cons (show CallT Try.prog 32 [zqI mn,zqI 0,zqI 4096] (AHeap.rows 23 [(0,.made [zqA k n d mn mx] 5 true)]) (AVal.bool true) (AHeap.rows 23 [(0,.made [zqA k n d mn mx] 5 true)])from⟨c0▸within_does mn (0) (4096) _⟩) (All.cons (eqF c1) (All.cons (show CallT Try.prog 32 [zqI mx,zqI 1,zqI 4096] (AHeap.rows 23 [(0,.made [zqA k n d mn mx] 5 true)]) (AVal.bool false) (AHeap.rows 23 [(0,.made [zqA k n d mn mx] 5 true)])from⟨Bool.eq_false_iff.2 c2▸within_does mx (1) (4096) _⟩) (All.cons (show Agree [zqI mn,zqI 0,zqI 4096] [zqI mx,zqI 1,zqI 4096] (AHeap.rows 23 [(0,.made [zqA k n d mn mx] 5 true)]) (AHeap.rows 23 [(0,.made [zqA k n d mn mx] 5 true)]) (AVal.bool true) (AVal.bool false) (AHeap.rows 23 [(0,.made [zqA k n d mn mx] 5 true)]) (AHeap.rows 23 [(0,.made [zqA k n d mn mx] 5 true)])from⟨by intro hh _;first | (simp at hh;done) | (simp at hh;simp [hh]) | exact⟨rfl,rfl⟩⟩) (All.cons (eqT c4) (All.nil))))))
section
variable(c4: ¬ (k=0))
include c4
theorem refRight_does_32(c5:k=1) :
    FDoes Try.prog 13 [zqA k n d mn mx] (⟨0,.nil⟩) (AVal.bool false) (AHeap.rows 41 [(0,.made [zqA k n d mn mx] 5 true)]) :=
  pcall_does env_ok mixed (hs:= [.val 1002 (.bool true),.val 1006 (.bool false),.val 1010 (.bool false),.val 3000 (.bool false),.val 5000 (.bool true)]) (rs:= []) (by kernel_rfl) (All.cons (show CallT Try.prog 32 [zqI mn,zqI 0,zqI 4096] (AHeap.rows 23 [(0,.made [zqA k n d mn mx] 5 true)]) (AVal.bool true) (AHeap.rows 23 [(0,.made [zqA k n d mn mx] 5 true)])from⟨c0▸within_does mn (0) (4096) _⟩) (All.cons (eqF c1) (All.cons (show CallT Try.prog 32 [zqI mx,zqI 1,zqI 4096] (AHeap.rows 23 [(0,.made [zqA k n d mn mx] 5 true)]) (AVal.bool false) (AHeap.rows 23 [(0,.made [zqA k n d mn mx] 5 true)])from⟨Bool.eq_false_iff.2 c2▸within_does mx (1) (4096) _⟩) (All.cons (show Agree [zqI mn,zqI 0,zqI 4096] [zqI mx,zqI 1,zqI 4096] (AHeap.rows 23 [(0,.made [zqA k n d mn mx] 5 true)]) (AHeap.rows 23 [(0,.made [zqA k n d mn mx] 5 true)]) (AVal.bool true) (AVal.bool false) (AHeap.rows 23 [(0,.made [zqA k n d mn mx] 5 true)]) (AHeap.rows 23 [(0,.made [zqA k n d mn mx] 5 true)])from⟨by intro hh _;first | (simp at hh;done) | (simp at hh;simp [hh]) | exact⟨rfl,rfl⟩⟩) (All.cons (eqF c4) (All.cons (eqT c5) (All.nil)))))))
theorem refRight_does_33(c5: ¬ (k=1))(c6:k=2) :
    FDoes Try.prog 13 [zqA k n d mn mx] (⟨0,.nil⟩) (AVal.bool false) (AHeap.rows 43 [(0,.made [zqA k n d mn mx] 5 true)]) :=
  pcall_does env_ok mixed (hs:= [.val 1002 (.bool true),.val 1006 (.bool false),.val 1010 (.bool false),.val 3000 (.bool false),.val 5000 (.bool false),.val 7000 (.bool true)]) (rs:= []) (by kernel_rfl) (All.cons (show CallT Try.prog 32 [zqI mn,zqI 0,zqI 4096] (AHeap.rows 23 [(0,.made [zqA k n d mn mx] 5 true)]) (AVal.bool true) (AHeap.rows 23 [(0,.made [zqA k n d mn mx] 5 true)])from⟨c0▸within_does mn (0) (4096) _⟩) (All.cons (eqF c1) (All.cons (show CallT Try.prog 32 [zqI mx,zqI 1,zqI 4096] (AHeap.rows 23 [(0,.made [zqA k n d mn mx] 5 true)]) (AVal.bool false) (AHeap.rows 23 [(0,.made [zqA k n d mn mx] 5 true)])from⟨Bool.eq_false_iff.2 c2▸within_does mx (1) (4096) _⟩) (All.cons (show Agree [zqI mn,zqI 0,zqI 4096] [zqI mx,zqI 1,zqI 4096] (AHeap.rows 23 [(0,.made [zqA k n d mn mx] 5 true)]) (AHeap.rows 23 [(0,.made [zqA k n d mn mx] 5 true)]) (AVal.bool true) (AVal.bool false) (AHeap.rows 23 [(0,.made [zqA k n d mn mx] 5 true)]) (AHeap.rows 23 [(0,.made [zqA k n d mn mx] 5 true)])from⟨by intro hh _;first | (simp at hh;done) | (simp at hh;simp [hh]) | exact⟨rfl,rfl⟩⟩) (All.cons (eqF c4) (All.cons (eqF c5) (All.cons (eqT c6) (All.nil))))))))
theorem refRight_does_34(c5: ¬ (k=1))(c6: ¬ (k=2))(c7:k=3) :
    FDoes Try.prog 13 [zqA k n d mn mx] (⟨0,.nil⟩) (AVal.bool false) (AHeap.rows 45 [(0,.made [zqA k n d mn mx] 5 true)]) :=
  pcall_does env_ok mixed (hs:= [.val 1002 (.bool true),.val 1006 (.bool false),.val 1010 (.bool false),.val 3000 (.bool false),.val 5000 (.bool false),.val 7000 (.bool false),.val 9000 (.bool true)]) (rs:= []) (by kernel_rfl) (All.cons (show CallT Try.prog 32 [zqI mn,zqI 0,zqI 4096] (AHeap.rows 23 [(0,.made [zqA k n d mn mx] 5 true)]) (AVal.bool true) (AHeap.rows 23 [(0,.made [zqA k n d mn mx] 5 true)])from⟨c0▸within_does mn (0) (4096) _⟩) (All.cons (eqF c1) (All.cons (show CallT Try.prog 32 [zqI mx,zqI 1,zqI 4096] (AHeap.rows 23 [(0,.made [zqA k n d mn mx] 5 true)]) (AVal.bool false) (AHeap.rows 23 [(0,.made [zqA k n d mn mx] 5 true)])from⟨Bool.eq_false_iff.2 c2▸within_does mx (1) (4096) _⟩) (All.cons (show Agree [zqI mn,zqI 0,zqI 4096] [zqI mx,zqI 1,zqI 4096] (AHeap.rows 23 [(0,.made [zqA k n d mn mx] 5 true)]) (AHeap.rows 23 [(0,.made [zqA k n d mn mx] 5 true)]) (AVal.bool true) (AVal.bool false) (AHeap.rows 23 [(0,.made [zqA k n d mn mx] 5 true)]) (AHeap.rows 23 [(0,.made [zqA k n d mn mx] 5 true)])from⟨by intro hh _;first | (simp at hh;done) | (simp at hh;simp [hh]) | exact⟨rfl,rfl⟩⟩) (All.cons (eqF c4) (All.cons (eqF c5) (All.cons (eqF c6) (All.cons (eqT c7) (All.nil)))))))))
theorem refRight_does_35(c5: ¬ (k=1))(c6: ¬ (k=2))(c7: ¬ (k=3)) :
    FDoes Try.prog 13 [zqA k n d mn mx] (⟨0,.nil⟩) (AVal.bool false) (AHeap.rows 34 [(0,.made [zqA k n d mn mx] 5 true)]) :=
  pcall_does env_ok mixed (hs:= [.val 1002 (.bool true),.val 1006 (.bool false),.val 1010 (.bool false),.val 3000 (.bool false),.val 5000 (.bool false),.val 7000 (.bool false),.val 9000 (.bool false)]) (rs:= []) (by kernel_rfl) (All.cons (show CallT Try.prog 32 [zqI mn,zqI 0,zqI 4096] (AHeap.rows 23 [(0,.made [zqA k n d mn mx] 5 true)]) (AVal.bool true) (AHeap.rows 23 [(0,.made [zqA k n d mn mx] 5 true)])from⟨c0▸within_does mn (0) (4096) _⟩) (All.cons (eqF c1) (All.cons (show CallT Try.prog 32 [zqI mx,zqI 1,zqI 4096] (AHeap.rows 23 [(0,.made [zqA k n d mn mx] 5 true)]) (AVal.bool false) (AHeap.rows 23 [(0,.made [zqA k n d mn mx] 5 true)])from⟨Bool.eq_false_iff.2 c2▸within_does mx (1) (4096) _⟩) (All.cons (show Agree [zqI mn,zqI 0,zqI 4096] [zqI mx,zqI 1,zqI 4096] (AHeap.rows 23 [(0,.made [zqA k n d mn mx] 5 true)]) (AHeap.rows 23 [(0,.made [zqA k n d mn mx] 5 true)]) (AVal.bool true) (AVal.bool false) (AHeap.rows 23 [(0,.made [zqA k n d mn mx] 5 true)]) (AHeap.rows 23 [(0,.made [zqA k n d mn mx] 5 true)])from⟨by intro hh _;first | (simp at hh;done) | (simp at hh;simp [hh]) | exact⟨rfl,rfl⟩⟩) (All.cons (eqF c4) (All.cons (eqF c5) (All.cons (eqF c6) (All.cons (eqF c7) (All.nil)))))))))
end
end
end
section
variable(k n d mn mx:Int)(c0: ¬ (withinB mn (0) (4096)=true))
include k n d mn mx c0
theorem refRight_does_36(c1:k=0) :
    FDoes Try.prog 13 [zqA k n d mn mx] (⟨0,.nil⟩) (AVal.bool false) (AHeap.rows 39 [(0,.made [zqA k n d mn mx] 5 true)]) :=
  pcall_does env_ok mixed (hs:= [.val 1002 (.bool false),.val 3000 (.bool true)]) (rs:= []) (by kernel_rfl) (All.cons (show CallT Try.prog 32 [zqI mn,zqI 0,zqI 4096] (AHeap.rows 23 [(0,.made [zqA k n d mn mx] 5 true)]) (AVal.bool false) (AHeap.rows 23 [(0,.made [zqA k n d mn mx] 5 true)])from⟨Bool.eq_false_iff.2 c0▸within_does mn (0) (4096) _⟩) (All.cons (eqT c1) (All.nil)))
section
variable(c1: ¬ (k=0))
include c1
theorem refRight_does_37(c2:k=1) :
    FDoes Try.prog 13 [zqA k n d mn mx] (⟨0,.nil⟩) (AVal.bool false) (AHeap.rows 41 [(0,.made [zqA k n d mn mx] 5 true)]) :=
  pcall_does env_ok mixed (hs:= [.val 1002 (.bool false),.val 3000 (.bool false),.val 5000 (.bool true)]) (rs:= []) (by kernel_rfl) (All.cons (show CallT Try.prog 32 [zqI mn,zqI 0,zqI 4096] (AHeap.rows 23 [(0,.made [zqA k n d mn mx] 5 true)]) (AVal.bool false) (AHeap.rows 23 [(0,.made [zqA k n d mn mx] 5 true)])from⟨Bool.eq_false_iff.2 c0▸within_does mn (0) (4096) _⟩) (All.cons (eqF c1) (All.cons (eqT c2) (All.nil))))
theorem refRight_does_38(c2: ¬ (k=1))(c3:k=2) :
    FDoes Try.prog 13 [zqA k n d mn mx] (⟨0,.nil⟩) (AVal.bool false) (AHeap.rows 43 [(0,.made [zqA k n d mn mx] 5 true)]) :=
  pcall_does env_ok mixed (hs:= [.val 1002 (.bool false),.val 3000 (.bool false),.val 5000 (.bool false),.val 7000 (.bool true)]) (rs:= []) (by kernel_rfl) (All.cons (show CallT Try.prog 32 [zqI mn,zqI 0,zqI 4096] (AHeap.rows 23 [(0,.made [zqA k n d mn mx] 5 true)]) (AVal.bool false) (AHeap.rows 23 [(0,.made [zqA k n d mn mx] 5 true)])from⟨Bool.eq_false_iff.2 c0▸within_does mn (0) (4096) _⟩) (All.cons (eqF c1) (All.cons (eqF c2) (All.cons (eqT c3) (All.nil)))))
theorem refRight_does_39(c2: ¬ (k=1))(c3: ¬ (k=2))(c4:k=3) :
    FDoes Try.prog 13 [zqA k n d mn mx] (⟨0,.nil⟩) (AVal.bool false) (AHeap.rows 45 [(0,.made [zqA k n d mn mx] 5 true)]) :=
  pcall_does env_ok mixed (hs:= [.val 1002 (.bool false),.val 3000 (.bool false),.val 5000 (.bool false),.val 7000 (.bool false),.val 9000 (.bool true)]) (rs:= []) (by kernel_rfl) (All.cons (show CallT Try.prog 32 [zqI mn,zqI 0,zqI 4096] (AHeap.rows 23 [(0,.made [zqA k n d mn mx] 5 true)]) (AVal.bool false) (AHeap.rows 23 [(0,.made [zqA k n d mn mx] 5 true)])from⟨Bool.eq_false_iff.2 c0▸within_does mn (0) (4096) _⟩) (All.cons (eqF c1) (All.cons (eqF c2) (All.cons (eqF c3) (All.cons (eqT c4) (All.nil))))))
theorem refRight_does_40(c2: ¬ (k=1))(c3: ¬ (k=2))(c4: ¬ (k=3)) :
    FDoes Try.prog 13 [zqA k n d mn mx] (⟨0,.nil⟩) (AVal.bool false) (AHeap.rows 34 [(0,.made [zqA k n d mn mx] 5 true)]) :=
  pcall_does env_ok mixed (hs:= [.val 1002 (.bool false),.val 3000 (.bool false),.val 5000 (.bool false),.val 7000 (.bool false),.val 9000 (.bool false)]) (rs:= []) (by kernel_rfl) (All.cons (show CallT Try.prog 32 [zqI mn,zqI 0,zqI 4096] (AHeap.rows 23 [(0,.made [zqA k n d mn mx] 5 true)]) (AVal.bool false) (AHeap.rows 23 [(0,.made [zqA k n d mn mx] 5 true)])from⟨Bool.eq_false_iff.2 c0▸within_does mn (0) (4096) _⟩) (All.cons (eqF c1) (All.cons (eqF c2) (All.cons (eqF c3) (All.cons (eqF c4) (All.nil))))))
end
end
theorem refRight_does (k n d mn mx:Int) (H:AHeap):FDoes Try.prog 13 [.agg [.int .i8 k,.int .i64 n,.int .i64 d,.int .i64 mn,.int .i64 mx]] H (.bool (rightB k n d mn mx)) H:=by
  have ha: ∀ z9∈([.agg [.int .i8 k,.int .i64 n,.int .i64 d,.int .i64 mn,.int .i64 mx]]:List AVal),Bare z9:=by simp [Bare,AVal.ren,AVal.rens,Clo,Clos]
  by_cases c0:withinB mn (0) (4096)=true
  · skip
    by_cases c1:mx=0
    · skip
      by_cases c2:k=0
      · skip
        by_cases c3:n=0
        · skip
          by_cases c4:d=0
          · skip
            have hp:=refRight_does_0 k n d mn mx c0 c1 c2 c3 c4
            have e:rightB k n d mn mx=true:=by simp only [withinB,decide_eq_true_eq]at *; simp only [rightB,decide_eq_true_eq];omega
            rw [e];exact hp.bare ha (Bare.bool _) H
          · skip
            have hp:=refRight_does_1 k n d mn mx c0 c1 c2 c3 c4
            have e:rightB k n d mn mx=false:=by simp only [withinB,decide_eq_true_eq]at *; simp only [rightB,decide_eq_false_iff_not];omega
            rw [e];exact hp.bare ha (Bare.bool _) H
        · skip
          have hp:=refRight_does_2 k n d mn mx c0 c1 c2 c3
          have e:rightB k n d mn mx=false:=by simp only [withinB,decide_eq_true_eq]at *; simp only [rightB,decide_eq_false_iff_not];omega
          rw [e];exact hp.bare ha (Bare.bool _) H
      · skip
        by_cases c3:k=1
        · skip
          by_cases c4:withinB n (0) (4096)=true
          · skip
            by_cases c5:d=0
            · skip
              have hp:=refRight_does_3 k n d mn mx c0 c1 c2 c3 c4 c5
              have e:rightB k n d mn mx=true:=by simp only [withinB,decide_eq_true_eq]at *; simp only [rightB,decide_eq_true_eq];omega
              rw [e];exact hp.bare ha (Bare.bool _) H
            · skip
              have hp:=refRight_does_4 k n d mn mx c0 c1 c2 c3 c4 c5
              have e:rightB k n d mn mx=false:=by simp only [withinB,decide_eq_true_eq]at *; simp only [rightB,decide_eq_false_iff_not];omega
              rw [e];exact hp.bare ha (Bare.bool _) H
          · skip
            have hp:=refRight_does_5 k n d mn mx c0 c1 c2 c3 c4
            have e:rightB k n d mn mx=false:=by simp only [withinB,decide_eq_true_eq]at *; simp only [rightB,decide_eq_false_iff_not];omega
            rw [e];exact hp.bare ha (Bare.bool _) H
        · skip
          by_cases c4:k=2
          · skip
            by_cases c5:withinB n (0) (1000)=true
            · skip
              by_cases c6:withinB d (1) (1000)=true
              · skip
                have hp:=refRight_does_6 k n d mn mx c0 c1 c2 c3 c4 c5 c6
                have e:rightB k n d mn mx=true:=by simp only [withinB,decide_eq_true_eq]at *; simp only [rightB,decide_eq_true_eq];omega
                rw [e];exact hp.bare ha (Bare.bool _) H
              · skip
                have hp:=refRight_does_7 k n d mn mx c0 c1 c2 c3 c4 c5 c6
                have e:rightB k n d mn mx=false:=by simp only [withinB,decide_eq_true_eq]at *; simp only [rightB,decide_eq_false_iff_not];omega
                rw [e];exact hp.bare ha (Bare.bool _) H
            · skip
              have hp:=refRight_does_8 k n d mn mx c0 c1 c2 c3 c4 c5
              have e:rightB k n d mn mx=false:=by simp only [withinB,decide_eq_true_eq]at *; simp only [rightB,decide_eq_false_iff_not];omega
              rw [e];exact hp.bare ha (Bare.bool _) H
          · skip
            by_cases c5:k=3
            · skip
              by_cases c6:withinB n (1) (1000)=true
              · skip
                by_cases c7:d=0
                · skip
                  have hp:=refRight_does_9 k n d mn mx c0 c1 c2 c3 c4 c5 c6 c7
                  have e:rightB k n d mn mx=true:=by simp only [withinB,decide_eq_true_eq]at *; simp only [rightB,decide_eq_true_eq];omega
                  rw [e];exact hp.bare ha (Bare.bool _) H
                · skip
                  have hp:=refRight_does_10 k n d mn mx c0 c1 c2 c3 c4 c5 c6 c7
                  have e:rightB k n d mn mx=false:=by simp only [withinB,decide_eq_true_eq]at *; simp only [rightB,decide_eq_false_iff_not];omega
                  rw [e];exact hp.bare ha (Bare.bool _) H
              · skip
                have hp:=refRight_does_11 k n d mn mx c0 c1 c2 c3 c4 c5 c6
                have e:rightB k n d mn mx=false:=by simp only [withinB,decide_eq_true_eq]at *; simp only [rightB,decide_eq_false_iff_not];omega
                rw [e];exact hp.bare ha (Bare.bool _) H
            · skip
              have hp:=refRight_does_12 k n d mn mx c0 c1 c2 c3 c4 c5
              have e:rightB k n d mn mx=false:=by simp only [withinB,decide_eq_true_eq]at *; simp only [rightB,decide_eq_false_iff_not];omega
              rw [e];exact hp.bare ha (Bare.bool _) H
    · skip
      by_cases c2:withinB mx (1) (4096)=true
      · skip
        by_cases c3:mx≥mn
        · skip
          by_cases c4:k=0
          · skip
            by_cases c5:n=0
            · skip
              by_cases c6:d=0
              · skip
                have hp:=refRight_does_13 k n d mn mx c0 c1 c2 c3 c4 c5 c6
                have e:rightB k n d mn mx=true:=by simp only [withinB,decide_eq_true_eq]at *; simp only [rightB,decide_eq_true_eq];omega
                rw [e];exact hp.bare ha (Bare.bool _) H
              · skip
                have hp:=refRight_does_14 k n d mn mx c0 c1 c2 c3 c4 c5 c6
                have e:rightB k n d mn mx=false:=by simp only [withinB,decide_eq_true_eq]at *; simp only [rightB,decide_eq_false_iff_not];omega
                rw [e];exact hp.bare ha (Bare.bool _) H
            · skip
              have hp:=refRight_does_15 k n d mn mx c0 c1 c2 c3 c4 c5
              have e:rightB k n d mn mx=false:=by simp only [withinB,decide_eq_true_eq]at *; simp only [rightB,decide_eq_false_iff_not];omega
              rw [e];exact hp.bare ha (Bare.bool _) H
          · skip
            by_cases c5:k=1
            · skip
              by_cases c6:withinB n (0) (4096)=true
              · skip
                by_cases c7:d=0
                · skip
                  have hp:=refRight_does_16 k n d mn mx c0 c1 c2 c3 c4 c5 c6 c7
                  have e:rightB k n d mn mx=true:=by simp only [withinB,decide_eq_true_eq]at *; simp only [rightB,decide_eq_true_eq];omega
                  rw [e];exact hp.bare ha (Bare.bool _) H
                · skip
                  have hp:=refRight_does_17 k n d mn mx c0 c1 c2 c3 c4 c5 c6 c7
                  have e:rightB k n d mn mx=false:=by simp only [withinB,decide_eq_true_eq]at *; simp only [rightB,decide_eq_false_iff_not];omega
                  rw [e];exact hp.bare ha (Bare.bool _) H
              · skip
                have hp:=refRight_does_18 k n d mn mx c0 c1 c2 c3 c4 c5 c6
                have e:rightB k n d mn mx=false:=by simp only [withinB,decide_eq_true_eq]at *; simp only [rightB,decide_eq_false_iff_not];omega
                rw [e];exact hp.bare ha (Bare.bool _) H
            · skip
              by_cases c6:k=2
              · skip
                by_cases c7:withinB n (0) (1000)=true
                · skip
                  by_cases c8:withinB d (1) (1000)=true
                  · skip
                    have hp:=refRight_does_19 k n d mn mx c0 c1 c2 c3 c4 c5 c6 c7 c8
                    have e:rightB k n d mn mx=true:=by simp only [withinB,decide_eq_true_eq]at *; simp only [rightB,decide_eq_true_eq];omega
                    rw [e];exact hp.bare ha (Bare.bool _) H
                  · skip
                    have hp:=refRight_does_20 k n d mn mx c0 c1 c2 c3 c4 c5 c6 c7 c8
                    have e:rightB k n d mn mx=false:=by simp only [withinB,decide_eq_true_eq]at *; simp only [rightB,decide_eq_false_iff_not];omega
                    rw [e];exact hp.bare ha (Bare.bool _) H
                · skip
                  have hp:=refRight_does_21 k n d mn mx c0 c1 c2 c3 c4 c5 c6 c7
                  have e:rightB k n d mn mx=false:=by simp only [withinB,decide_eq_true_eq]at *; simp only [rightB,decide_eq_false_iff_not];omega
                  rw [e];exact hp.bare ha (Bare.bool _) H
              · skip
                by_cases c7:k=3
                · skip
                  by_cases c8:withinB n (1) (1000)=true
                  · skip
                    by_cases c9:d=0
                    · skip
                      have hp:=refRight_does_22 k n d mn mx c0 c1 c2 c3 c4 c5 c6 c7 c8 c9
                      have e:rightB k n d mn mx=true:=by simp only [withinB,decide_eq_true_eq]at *; simp only [rightB,decide_eq_true_eq];omega
                      rw [e];exact hp.bare ha (Bare.bool _) H
                    · skip
                      have hp:=refRight_does_23 k n d mn mx c0 c1 c2 c3 c4 c5 c6 c7 c8 c9
                      have e:rightB k n d mn mx=false:=by simp only [withinB,decide_eq_true_eq]at *; simp only [rightB,decide_eq_false_iff_not];omega
                      rw [e];exact hp.bare ha (Bare.bool _) H
                  · skip
                    have hp:=refRight_does_24 k n d mn mx c0 c1 c2 c3 c4 c5 c6 c7 c8
                    have e:rightB k n d mn mx=false:=by simp only [withinB,decide_eq_true_eq]at *; simp only [rightB,decide_eq_false_iff_not];omega
                    rw [e];exact hp.bare ha (Bare.bool _) H
                · skip
                  have hp:=refRight_does_25 k n d mn mx c0 c1 c2 c3 c4 c5 c6 c7
                  have e:rightB k n d mn mx=false:=by simp only [withinB,decide_eq_true_eq]at *; simp only [rightB,decide_eq_false_iff_not];omega
                  rw [e];exact hp.bare ha (Bare.bool _) H
        · skip
          by_cases c4:k=0
          · skip
            have hp:=refRight_does_26 k n d mn mx c0 c1 c2 c3 c4
            have e:rightB k n d mn mx=false:=by simp only [withinB,decide_eq_true_eq]at *; simp only [rightB,decide_eq_false_iff_not];omega
            rw [e];exact hp.bare ha (Bare.bool _) H
          · skip
            by_cases c5:k=1
            · skip
              have hp:=refRight_does_27 k n d mn mx c0 c1 c2 c3 c4 c5
              have e:rightB k n d mn mx=false:=by simp only [withinB,decide_eq_true_eq]at *; simp only [rightB,decide_eq_false_iff_not];omega
              rw [e];exact hp.bare ha (Bare.bool _) H
            · skip
              by_cases c6:k=2
              · skip
                have hp:=refRight_does_28 k n d mn mx c0 c1 c2 c3 c4 c5 c6
                have e:rightB k n d mn mx=false:=by simp only [withinB,decide_eq_true_eq]at *; simp only [rightB,decide_eq_false_iff_not];omega
                rw [e];exact hp.bare ha (Bare.bool _) H
              · skip
                by_cases c7:k=3
                · skip
                  have hp:=refRight_does_29 k n d mn mx c0 c1 c2 c3 c4 c5 c6 c7
                  have e:rightB k n d mn mx=false:=by simp only [withinB,decide_eq_true_eq]at *; simp only [rightB,decide_eq_false_iff_not];omega
                  rw [e];exact hp.bare ha (Bare.bool _) H
                · skip
                  have hp:=refRight_does_30 k n d mn mx c0 c1 c2 c3 c4 c5 c6 c7
                  have e:rightB k n d mn mx=false:=by simp only [withinB,decide_eq_true_eq]at *; simp only [rightB,decide_eq_false_iff_not];omega
                  rw [e];exact hp.bare ha (Bare.bool _) H
      · skip
        by_cases c3:k=0
        · skip
          have hp:=refRight_does_31 k n d mn mx c0 c1 c2 c3
          have e:rightB k n d mn mx=false:=by simp only [withinB,decide_eq_true_eq]at *; simp only [rightB,decide_eq_false_iff_not];omega
          rw [e];exact hp.bare ha (Bare.bool _) H
        · skip
          by_cases c4:k=1
          · skip
            have hp:=refRight_does_32 k n d mn mx c0 c1 c2 c3 c4
            have e:rightB k n d mn mx=false:=by simp only [withinB,decide_eq_true_eq]at *; simp only [rightB,decide_eq_false_iff_not];omega
            rw [e];exact hp.bare ha (Bare.bool _) H
          · skip
            by_cases c5:k=2
            · skip
              have hp:=refRight_does_33 k n d mn mx c0 c1 c2 c3 c4 c5
              have e:rightB k n d mn mx=false:=by simp only [withinB,decide_eq_true_eq]at *; simp only [rightB,decide_eq_false_iff_not];omega
              rw [e];exact hp.bare ha (Bare.bool _) H
            · skip
              by_cases c6:k=3
              · skip
                have hp:=refRight_does_34 k n d mn mx c0 c1 c2 c3 c4 c5 c6
                have e:rightB k n d mn mx=false:=by simp only [withinB,decide_eq_true_eq]at *; simp only [rightB,decide_eq_false_iff_not];omega
                rw [e];exact hp.bare ha (Bare.bool _) H
              · skip
                have hp:=refRight_does_35 k n d mn mx c0 c1 c2 c3 c4 c5 c6
                have e:rightB k n d mn mx=false:=by simp only [withinB,decide_eq_true_eq]at *; simp only [rightB,decide_eq_false_iff_not];omega
                rw [e];exact hp.bare ha (Bare.bool _) H
  · skip
    by_cases c1:k=0
    · skip
      have hp:=refRight_does_36 k n d mn mx c0 c1
      have e:rightB k n d mn mx=false:=by simp only [withinB,decide_eq_true_eq]at *; simp only [rightB,decide_eq_false_iff_not];omega
      rw [e];exact hp.bare ha (Bare.bool _) H
    · skip
      by_cases c2:k=1
      · skip
        have hp:=refRight_does_37 k n d mn mx c0 c1 c2
        have e:rightB k n d mn mx=false:=by simp only [withinB,decide_eq_true_eq]at *; simp only [rightB,decide_eq_false_iff_not];omega
        rw [e];exact hp.bare ha (Bare.bool _) H
      · skip
        by_cases c3:k=2
        · skip
          have hp:=refRight_does_38 k n d mn mx c0 c1 c2 c3
          have e:rightB k n d mn mx=false:=by simp only [withinB,decide_eq_true_eq]at *; simp only [rightB,decide_eq_false_iff_not];omega
          rw [e];exact hp.bare ha (Bare.bool _) H
        · skip
          by_cases c4:k=3
          · skip
            have hp:=refRight_does_39 k n d mn mx c0 c1 c2 c3 c4
            have e:rightB k n d mn mx=false:=by simp only [withinB,decide_eq_true_eq]at *; simp only [rightB,decide_eq_false_iff_not];omega
            rw [e];exact hp.bare ha (Bare.bool _) H
          · skip
            have hp:=refRight_does_40 k n d mn mx c0 c1 c2 c3 c4
            have e:rightB k n d mn mx=false:=by simp only [withinB,decide_eq_true_eq]at *; simp only [rightB,decide_eq_false_iff_not];omega
            rw [e];exact hp.bare ha (Bare.bool _) H
end Go.Proofs.Ytgfkllnaeekjeaa
namespace Go.Proofs.Ytgfkllnaeekjeaa
open Go.Lift
set_option maxRecDepth 1000000
noncomputable abbrev zq61_1(N:Nat)(i:Nat):Prop:=aindexAddr env.D 27 (.slice (some ⟨27,0,0,0,1⟩) N N) (zqI (i:Int))=some (.ptr (some ⟨27,0,i,0,1⟩))
noncomputable abbrev zq61_2(room:Int)(N:Nat)(o:Option AAddr)(c:Nat)(i:Nat):Facts:= [(8,zqI room),(9,.slice (some ⟨22,0,0,0,5⟩) N N),(10,.slice (some ⟨25,0,0,0,1⟩) N N),(11,.slice (some ⟨27,0,0,0,1⟩) N N),(12,.slice (some ⟨29,0,0,0,1⟩) N N),(43,.slice o N c),(44,zqI N),(45,zqI i)]
noncomputable abbrev zq61_3(N:Nat)(i:Nat):Prop:=aindexAddr env.D 27 (.slice (some ⟨25,0,0,0,1⟩) N N) (zqI (i:Int))=some (.ptr (some ⟨25,0,i,0,1⟩))
noncomputable abbrev zq61_4(room:Int)(N:Nat)(o:Option AAddr)(c:Nat)(i:Nat):Facts:= [(8,zqI room),(9,.slice (some ⟨22,0,0,0,5⟩) N N),(10,.slice (some ⟨25,0,0,0,1⟩) N N),(11,.slice (some ⟨27,0,0,0,1⟩) N N),(12,.slice (some ⟨29,0,0,0,1⟩) N N),(43,.slice o N c),(44,zqI (N:Int)),(45,zqI ((i:Int)+1))]
noncomputable abbrev zq61_5(b:ABlk)(l:List AVal)(m:List AVal)(w:List AVal)(v:List AVal)(k:Int)(n:Int)(d:Int)(mn:Int)(mx:Int):List (Nat×ABlk):= [(0,b),(22,.made l 5 true),(25,.made m 1 true),(27,.made w 1 true),(29,.made v 1 true),(44,(.made ([zqA k n d mn mx]) 5 true))]
noncomputable abbrev zq61_6(b:ABlk)(l:List AVal)(m:List AVal)(w:List AVal)(v:List AVal):List (Nat×ABlk):= [(0,b),(22,.made l 5 true),(25,.made m 1 true),(27,.made w 1 true),(29,.made v 1 true)]
noncomputable abbrev zq61_8(b:ABlk)(l:List AVal)(i:Nat)(k:Int)(n:Int)(d:Int)(mn:Int)(mx:Int)(m:List AVal)(w:List AVal)(v:List AVal):List (Nat×ABlk):= [(0,b),(22,(.made (List.set l i (zqA k n d mn mx)) 5 true)),(25,(.made (List.set m i (zqI mn)) 1 true)),(27,.made w 1 true),(29,.made v 1 true),(44,(.made ([zqA k n d mn mx]) 5 true))]
noncomputable abbrev zq61_9(N:Nat)(i:Nat):Prop:=aindexAddr env.D 26 (.slice (some ⟨22,0,0,0,5⟩) N N) (zqI (i:Int))=some (.ptr (some ⟨22,0,i,0,5⟩))
noncomputable abbrev zq61_10(N:Nat)(i:Nat):Prop:=aindexAddr env.D 27 (.slice (some ⟨29,0,0,0,1⟩) N N) (zqI (i:Int))=some (.ptr (some ⟨29,0,i,0,1⟩))
noncomputable abbrev zq61_12(l:List AVal)(i:Nat):Prop:=0=0∧l[i]? =some (.agg [.int .i8 (0),zqI 0,zqI 0,zqI 0,zqI 0])
section
variable(N i c ver off:Nat)(o:Option AAddr)(b:ABlk)(l m w v:List AVal)(k n d mn mx room x o1 o2 o3:Int)(hc_0:(i:Int)<(N:Int))(hc_1:aindexAddr env.D 26 (.slice o N c) (zqI (i:Int))=some (.ptr (some ⟨0,ver,off+i,0,5⟩)))(hc_2:ABlk.elem? b ver (off+i)=some (zqA k n d mn mx))(hc_3:FDoes Try.prog 12 [zqA k n d mn mx] (AHeap.rows 50 (zq61_5 b l m w v k n d mn mx)) (AVal.bool true) (AHeap.rows 50 (zq61_5 b l m w v k n d mn mx)))(hc_4:(zq61_9 N i))(hc_5:(zq61_12 l i))(hc_6:(zq61_3 N i))(hc_7:0=0∧m[i]? =some (zqI o1))
include N i c ver off o b l m w v k n d mn mx room x o1 o2 o3 hc_0 hc_1 hc_2 hc_3 hc_4 hc_5 hc_6 hc_7
theorem sz_P(hc_8:k=2)(hc_9:zqF (n*room))(hc_10:d≠0∧zqF (Int.tdiv (n*room) d))(hc_11:FDoes Try.prog 39 [zqI (Int.tdiv (n*room) d),zqA k n d mn mx] (AHeap.rows 78 (zq61_8 b l i k n d mn mx m w v)) (zqI x) (AHeap.rows 78 (zq61_8 b l i k n d mn mx m w v)))(hc_12:(zq61_1 N i))(hc_13:0=0∧w[i]? =some (zqI o2))(hc_14:(zq61_1 N i))(hc_15:ABlk.elem? (.made (List.set w i (zqI x)) 1 true) 0 i=some (zqI x))(hc_16:(zq61_3 N i))(hc_17:ABlk.elem? (.made (List.set m i (zqI mn)) 1 true) 0 i=some (zqI mn))(hc_18:zqF (x-mn))(hc_19:(zq61_10 N i))(hc_20:0=0∧v[i]? =some (zqI o3))(hc_21:zqF ((i:Int)+1)) :
    Runs Try.prog 1 142 (loopAt Try.prog 16 0) (zq61_2 room N o c i) (AHeap.rows 40 (zq61_6 b l m w v)) .normal (zq61_4 room N o c i) (AHeap.rows 93 [(0,b),(22,(.made (List.set l i (zqA k n d mn mx)) 5 true)),(25,(.made (List.set m i (zqI mn)) 1 true)),(27,(.made (List.set w i (zqI x)) 1 true)),(29,(.made (List.set v i (zqI (x-mn))) 1 true)),(44,(.made ([zqA k n d mn mx]) 5 true))]) :=
  ppath_runs env_ok mixed (hs:= [.val 8000 (.bool true),.val 9001 (.ptr (some ⟨0,ver,off+i,0,5⟩)),.ld 9002 (zqA k n d mn mx),.val 10001 (.bool true),.val 12003 (.ptr (some ⟨22,0,i,0,5⟩)),.st 12004 (.agg [.int .i8 0,zqI 0,zqI 0,zqI 0,zqI 0]),.val 13004 (.ptr (some ⟨25,0,i,0,1⟩)),.st 13005 (zqI o1),.val 16000 (.bool true),.go 17005,.go 17008,.val 17010 (zqI x),.val 17011 (.ptr (some ⟨27,0,i,0,1⟩)),.st 17012 (zqI o2),.val 20004 (.ptr (some ⟨27,0,i,0,1⟩)),.ld 20005 (zqI x),.val 20008 (.ptr (some ⟨25,0,i,0,1⟩)),.ld 20009 (zqI mn),.go 20010,.val 20011 (.ptr (some ⟨29,0,i,0,1⟩)),.st 20012 (zqI o3),.go 21000]) (keep:= [8,9,10,11,12,43,44,45]) (by kernel_rfl) (All.cons (okT hc_0) (All.cons hc_1 (All.cons hc_2 (All.cons (CallT.mk hc_3) (All.cons hc_4 (All.cons hc_5 (All.cons hc_6 (All.cons hc_7 (All.cons (eqT hc_8) (All.cons hc_9 (All.cons hc_10 (All.cons (CallT.mk hc_11) (All.cons hc_12 (All.cons hc_13 (All.cons hc_14 (All.cons hc_15 (All.cons hc_16 (All.cons hc_17 (All.cons hc_18 (All.cons hc_19 (All.cons hc_20 (All.cons hc_21 (All.nil)))))))))))))))))))))))
theorem sz_F(hc_8: ¬ (k=2))(hc_9:k=3)(hc_10:(zq61_1 N i))(hc_11:0=0∧w[i]? =some (zqI o2))(hc_12:(zq61_1 N i))(hc_13:ABlk.elem? (.made (List.set w i (zqI mn)) 1 true) 0 i=some (zqI mn))(hc_14:(zq61_3 N i))(hc_15:ABlk.elem? (.made (List.set m i (zqI mn)) 1 true) 0 i=some (zqI mn))(hc_16:zqF (mn-mn))(hc_17:(zq61_10 N i))(hc_18:0=0∧v[i]? =some (zqI o3))(hc_19:zqF ((i:Int)+1)) :
    Runs Try.prog 1 142 (loopAt Try.prog 16 0) (zq61_2 room N o c i) (AHeap.rows 40 (zq61_6 b l m w v)) .normal (zq61_4 room N o c i) (AHeap.rows 88 [(0,b),(22,(.made (List.set l i (zqA k n d mn mx)) 5 true)),(25,(.made (List.set m i (zqI mn)) 1 true)),(27,(.made (List.set w i (zqI mn)) 1 true)),(29,(.made (List.set v i (zqI (mn-mn))) 1 true)),(44,(.made ([zqA k n d mn mx]) 5 true))]) :=
  ppath_runs env_ok mixed (hs:= [.val 8000 (.bool true),.val 9001 (.ptr (some ⟨0,ver,off+i,0,5⟩)),.ld 9002 (zqA k n d mn mx),.val 10001 (.bool true),.val 12003 (.ptr (some ⟨22,0,i,0,5⟩)),.st 12004 (.agg [.int .i8 0,zqI 0,zqI 0,zqI 0,zqI 0]),.val 13004 (.ptr (some ⟨25,0,i,0,1⟩)),.st 13005 (zqI o1),.val 16000 (.bool false),.val 18000 (.bool true),.val 19004 (.ptr (some ⟨27,0,i,0,1⟩)),.st 19005 (zqI o2),.val 20004 (.ptr (some ⟨27,0,i,0,1⟩)),.ld 20005 (zqI mn),.val 20008 (.ptr (some ⟨25,0,i,0,1⟩)),.ld 20009 (zqI mn),.go 20010,.val 20011 (.ptr (some ⟨29,0,i,0,1⟩)),.st 20012 (zqI o3),.go 21000]) (keep:= [8,9,10,11,12,43,44,45]) (by kernel_rfl) (All.cons (okT hc_0) (All.cons hc_1 (All.cons hc_2 (All.cons (CallT.mk hc_3) (All.cons hc_4 (All.cons hc_5 (All.cons hc_6 (All.cons hc_7 (All.cons (eqF hc_8) (All.cons (eqT hc_9) (All.cons hc_10 (All.cons hc_11 (All.cons hc_12 (All.cons hc_13 (All.cons hc_14 (All.cons hc_15 (All.cons hc_16 (All.cons hc_17 (All.cons hc_18 (All.cons hc_19 (All.nil)))))))))))))))))))))
theorem sz_O(hc_8: ¬ (k=2))(hc_9: ¬ (k=3))(hc_10:FDoes Try.prog 39 [zqI n,zqA k n d mn mx] (AHeap.rows 75 (zq61_8 b l i k n d mn mx m w v)) (zqI x) (AHeap.rows 75 (zq61_8 b l i k n d mn mx m w v)))(hc_11:(zq61_1 N i))(hc_12:0=0∧w[i]? =some (zqI o2))(hc_13:(zq61_1 N i))(hc_14:ABlk.elem? (.made (List.set w i (zqI x)) 1 true) 0 i=some (zqI x))(hc_15:(zq61_3 N i))(hc_16:ABlk.elem? (.made (List.set m i (zqI mn)) 1 true) 0 i=some (zqI mn))(hc_17:zqF (x-mn))(hc_18:(zq61_10 N i))(hc_19:0=0∧v[i]? =some (zqI o3))(hc_20:zqF ((i:Int)+1)) :
    Runs Try.prog 1 142 (loopAt Try.prog 16 0) (zq61_2 room N o c i) (AHeap.rows 40 (zq61_6 b l m w v)) .normal (zq61_4 room N o c i) (AHeap.rows 90 [(0,b),(22,(.made (List.set l i (zqA k n d mn mx)) 5 true)),(25,(.made (List.set m i (zqI mn)) 1 true)),(27,(.made (List.set w i (zqI x)) 1 true)),(29,(.made (List.set v i (zqI (x-mn))) 1 true)),(44,(.made ([zqA k n d mn mx]) 5 true))]) :=
  ppath_runs env_ok mixed (hs:= [.val 8000 (.bool true),.val 9001 (.ptr (some ⟨0,ver,off+i,0,5⟩)),.ld 9002 (zqA k n d mn mx),.val 10001 (.bool true),.val 12003 (.ptr (some ⟨22,0,i,0,5⟩)),.st 12004 (.agg [.int .i8 0,zqI 0,zqI 0,zqI 0,zqI 0]),.val 13004 (.ptr (some ⟨25,0,i,0,1⟩)),.st 13005 (zqI o1),.val 16000 (.bool false),.val 18000 (.bool false),.val 15005 (zqI x),.val 15006 (.ptr (some ⟨27,0,i,0,1⟩)),.st 15007 (zqI o2),.val 20004 (.ptr (some ⟨27,0,i,0,1⟩)),.ld 20005 (zqI x),.val 20008 (.ptr (some ⟨25,0,i,0,1⟩)),.ld 20009 (zqI mn),.go 20010,.val 20011 (.ptr (some ⟨29,0,i,0,1⟩)),.st 20012 (zqI o3),.go 21000]) (keep:= [8,9,10,11,12,43,44,45]) (by kernel_rfl) (All.cons (okT hc_0) (All.cons hc_1 (All.cons hc_2 (All.cons (CallT.mk hc_3) (All.cons hc_4 (All.cons hc_5 (All.cons hc_6 (All.cons hc_7 (All.cons (eqF hc_8) (All.cons (eqF hc_9) (All.cons (CallT.mk hc_10) (All.cons hc_11 (All.cons hc_12 (All.cons hc_13 (All.cons hc_14 (All.cons hc_15 (All.cons hc_16 (All.cons hc_17 (All.cons hc_18 (All.cons hc_19 (All.cons hc_20 (All.nil))))))))))))))))))))))
end
noncomputable abbrev zq61_11(b:ABlk)(l:List AVal)(i:Nat)(m:List AVal)(w:List AVal)(v:List AVal):List (Nat×ABlk):= [(0,b),(22,(.made (List.set l i (.agg [.int .i8 (1),zqI 0,zqI 0,zqI 0,zqI 0])) 5 true)),(25,(.made (List.set m i (zqI 0)) 1 true)),(27,.made w 1 true),(29,.made v 1 true),(44,(.made ([.agg [.int .i8 (1),zqI 0,zqI 0,zqI 0,zqI 0]]) 5 true))]
theorem sz_W(N i c ver off:Nat)(o:Option AAddr)(b:ABlk)(l m w v:List AVal)(k n d mn mx room x o1 o2 o3:Int)(hc_0:(i:Int)<(N:Int))(hc_1:aindexAddr env.D 26 (.slice o N c) (zqI (i:Int))=some (.ptr (some ⟨0,ver,off+i,0,5⟩)))(hc_2:ABlk.elem? b ver (off+i)=some (zqA k n d mn mx))(hc_3:FDoes Try.prog 12 [zqA k n d mn mx] (AHeap.rows 50 (zq61_5 b l m w v k n d mn mx)) (AVal.bool false) (AHeap.rows 50 (zq61_5 b l m w v k n d mn mx)))(hc_4:(zq61_9 N i))(hc_5:(zq61_12 l i))(hc_6:(zq61_3 N i))(hc_7:0=0∧m[i]? =some (zqI o1))(hc_10:FDoes Try.prog 39 [zqI 0,.agg [.int .i8 (1),zqI 0,zqI 0,zqI 0,zqI 0]] (AHeap.rows 77 (zq61_11 b l i m w v)) (zqI x) (AHeap.rows 77 (zq61_11 b l i m w v)))(hc_11:(zq61_1 N i))(hc_12:0=0∧w[i]? =some (zqI o2))(hc_13:(zq61_1 N i))(hc_14:ABlk.elem? (.made (List.set w i (zqI x)) 1 true) 0 i=some (zqI x))(hc_15:(zq61_3 N i))(hc_16:ABlk.elem? (.made (List.set m i (zqI 0)) 1 true) 0 i=some (zqI 0))(hc_17:zqF (x-0))(hc_18:(zq61_10 N i))(hc_19:0=0∧v[i]? =some (zqI o3))(hc_20:zqF ((i:Int)+1)) :
    Runs Try.prog 1 142 (loopAt Try.prog 16 0) (zq61_2 room N o c i) (AHeap.rows 40 (zq61_6 b l m w v)) .normal (zq61_4 room N o c i) (AHeap.rows 92 [(0,b),(22,(.made (List.set l i (.agg [.int .i8 (1),zqI 0,zqI 0,zqI 0,zqI 0])) 5 true)),(25,(.made (List.set m i (zqI 0)) 1 true)),(27,(.made (List.set w i (zqI x)) 1 true)),(29,(.made (List.set v i (zqI (x-0))) 1 true)),(44,(.made ([.agg [.int .i8 (1),zqI 0,zqI 0,zqI 0,zqI 0]]) 5 true))]) :=
  ppath_runs env_ok mixed (hs:= [.val 8000 (.bool true),.val 9001 (.ptr (some ⟨0,ver,off+i,0,5⟩)),.ld 9002 (zqA k n d mn mx),.val 10001 (.bool false),.val 12003 (.ptr (some ⟨22,0,i,0,5⟩)),.st 12004 (.agg [.int .i8 0,zqI 0,zqI 0,zqI 0,zqI 0]),.val 13004 (.ptr (some ⟨25,0,i,0,1⟩)),.st 13005 (zqI o1),.val 16000 (.bool false),.val 18000 (.bool false),.val 15005 (zqI x),.val 15006 (.ptr (some ⟨27,0,i,0,1⟩)),.st 15007 (zqI o2),.val 20004 (.ptr (some ⟨27,0,i,0,1⟩)),.ld 20005 (zqI x),.val 20008 (.ptr (some ⟨25,0,i,0,1⟩)),.ld 20009 (zqI 0),.go 20010,.val 20011 (.ptr (some ⟨29,0,i,0,1⟩)),.st 20012 (zqI o3),.go 21000]) (keep:= [8,9,10,11,12,43,44,45]) (by kernel_rfl) (All.cons (okT hc_0) (All.cons hc_1 (All.cons hc_2 (All.cons (CallT.mk hc_3) (All.cons hc_4 (All.cons hc_5 (All.cons hc_6 (All.cons hc_7 (All.cons (show some (AVal.bool false)=some (AVal.bool false)from congrArg (fun q=>some (AVal.bool q)) (rfl)) (All.cons (show some (AVal.bool false)=some (AVal.bool false)from congrArg (fun q=>some (AVal.bool q)) (rfl)) (All.cons (CallT.mk hc_10) (All.cons hc_11 (All.cons hc_12 (All.cons hc_13 (All.cons hc_14 (All.cons hc_15 (All.cons hc_16 (All.cons hc_17 (All.cons hc_18 (All.cons hc_19 (All.cons hc_20 (All.nil))))))))))))))))))))))
noncomputable abbrev zq61_7(room:Int)(N:Nat):Facts:= [(8,zqI room),(9,.slice (some ⟨22,0,0,0,5⟩) N N),(10,.slice (some ⟨25,0,0,0,1⟩) N N),(11,.slice (some ⟨27,0,0,0,1⟩) N N),(12,.slice (some ⟨29,0,0,0,1⟩) N N)]
theorem sz_end(N i c:Nat)(o:Option AAddr)(b:ABlk)(l m w v:List AVal)(room:Int)(hc_0: ¬ ((i:Int)<(N:Int))) :
    Runs Try.prog 1 142 (loopAt Try.prog 16 0) (zq61_2 room N o c i) (AHeap.rows 40 (zq61_6 b l m w v)) (.exit 0) (zq61_7 room N) (AHeap.rows 41 (zq61_6 b l m w v)) :=
  ppath_runs env_ok mixed (hs:= [.val 8000 (.bool false)]) (keep:= [8,9,10,11,12]) (by kernel_rfl) (All.cons (okF hc_0) (All.nil))
theorem sz_sub(N i:Nat)(b:ABlk)(w s:List AVal)(x y old:Int)(hc_0:(i:Int)<(N:Int))(hc_1:aindexAddr env.D 27 (.slice (some ⟨57,0,0,0,1⟩) N N) (zqI (i:Int))=some (.ptr (some ⟨57,0,i,0,1⟩)))(hc_2:ABlk.elem? (.made s 1 true) 0 i=some (zqI x))(hc_3:(zq61_1 N i))(hc_4:ABlk.elem? (.made w 1 true) 0 i=some (zqI y))(hc_5:zqF (y-x))(hc_6:(zq61_1 N i))(hc_7:0=0∧w[i]? =some (zqI old))(hc_8:zqF ((i:Int)+1)) :
    Runs Try.prog 1 142 (loopAt Try.prog 16 1) [(11,.slice (some ⟨27,0,0,0,1⟩) N N),(121,.slice (some ⟨57,0,0,0,1⟩) N N),(122,zqI N),(123,zqI i)] (AHeap.rows 90 [(0,b),(27,.made w 1 true),(57,.made s 1 true)]) .normal [(11,.slice (some ⟨27,0,0,0,1⟩) N N),(121,.slice (some ⟨57,0,0,0,1⟩) N N),(122,zqI (N:Int)),(123,zqI ((i:Int)+1))] (AHeap.rows 106 [(0,b),(27,(.made (List.set w i (zqI (y-x))) 1 true)),(57,.made s 1 true)]) :=
  ppath_runs env_ok mixed (hs:= [.val 27000 (.bool true),.val 28001 (.ptr (some ⟨57,0,i,0,1⟩)),.ld 28002 (zqI x),.val 29002 (.ptr (some ⟨27,0,i,0,1⟩)),.ld 29003 (zqI y),.go 29005,.val 29006 (.ptr (some ⟨27,0,i,0,1⟩)),.st 29007 (zqI old),.go 30000]) (keep:= [11,121,122,123]) (by kernel_rfl) (All.cons (okT hc_0) (All.cons hc_1 (All.cons hc_2 (All.cons hc_3 (All.cons hc_4 (All.cons hc_5 (All.cons hc_6 (All.cons hc_7 (All.cons hc_8 (All.nil))))))))))
theorem sz_subEnd(N i:Nat)(b:ABlk)(w s:List AVal)(hc_0: ¬ ((i:Int)<(N:Int))) :
    Runs Try.prog 1 142 (loopAt Try.prog 16 1) [(11,.slice (some ⟨27,0,0,0,1⟩) N N),(121,.slice (some ⟨57,0,0,0,1⟩) N N),(122,zqI N),(123,zqI i)] (AHeap.rows 90 [(0,b),(27,.made w 1 true),(57,.made s 1 true)]) (.exit 3) [(11,.slice (some ⟨27,0,0,0,1⟩) N N)] (AHeap.rows 91 [(0,b),(27,.made w 1 true),(57,.made s 1 true)]) :=
  ppath_runs env_ok mixed (hs:= [.val 27000 (.bool false)]) (keep:= [11]) (by kernel_rfl) (All.cons (okF hc_0) (All.nil))
section
variable(N c:Nat)(o:Option AAddr)(b:ABlk)
include N c o b
theorem sz_nil1(extent gap:Int)(hc_0:(N:Int)=0) :
    FDoes Try.prog 16 [.slice o N c,zqI extent,zqI gap] (AHeap.of [b]) (.slice none 0 0) (AHeap.rows 12 [(0,b)]) :=
  pcall_does env_ok mixed (hs:= [.val 2001 (.bool true)]) (rs:= []) (by kernel_rfl) (All.cons (eqT hc_0) (All.nil))
theorem sz_nil2(extent gap:Int)(hc_0: ¬ ((N:Int)=0))(hc_1:(N:Int)>4096) :
    FDoes Try.prog 16 [.slice o N c,zqI extent,zqI gap] (AHeap.of [b]) (.slice none 0 0) (AHeap.rows 12 [(0,b)]) :=
  pcall_does env_ok mixed (hs:= [.val 2001 (.bool false),.val 2004 (.bool true)]) (rs:= []) (by kernel_rfl) (All.cons (eqF hc_0) (All.cons (okT hc_1) (All.nil)))
section
variable(l m w v w2 s:List AVal)(extent gap room s1 s2:Int)(hc_0: ¬ ((N:Int)=0))(hc_1: ¬ ((N:Int)>4096))(hc_2:FDoes Try.prog 38 [zqI extent] (AHeap.rows 21 [(0,b)]) (zqI (sideZ extent)) (AHeap.rows 21 [(0,b)]))(hc_3:FDoes Try.prog 38 [zqI gap] (AHeap.rows 21 [(0,b)]) (zqI (sideZ gap)) (AHeap.rows 21 [(0,b)]))(hc_4:zqF ((N:Int)-1))(hc_5:zqF (sideZ gap* ((N:Int)-1)))(hc_6:zqF (sideZ extent-sideZ gap* ((N:Int)-1)))(hc_8:0≤(N:Int)∧(N:Int)≤(N:Int)∧(N:Int)<4611686018427387904∧(40:Int)* (N:Int)≤281474976710656)(hc_9:0≤(N:Int)∧(N:Int)≤(N:Int)∧(N:Int)<4611686018427387904∧(8:Int)* (N:Int)≤281474976710656)(hc_10:0≤(N:Int)∧(N:Int)≤(N:Int)∧(N:Int)<4611686018427387904∧(8:Int)* (N:Int)≤281474976710656)(hc_11:0≤(N:Int)∧(N:Int)≤(N:Int)∧(N:Int)<4611686018427387904∧(8:Int)* (N:Int)≤281474976710656)(hc_12:Runs Try.prog 1 142 (.loop (loopAt Try.prog 16 0)) [(8,zqI (if sideZ extent-sideZ gap* ((N:Int)-1)>0 then sideZ extent-sideZ gap* ((N:Int)-1)else 0)),(9,.slice (some ⟨22,0,0,0,5⟩) N N),(10,.slice (some ⟨25,0,0,0,1⟩) N N),(11,.slice (some ⟨27,0,0,0,1⟩) N N),(12,.slice (some ⟨29,0,0,0,1⟩) N N),(43,.slice o N c),(44,zqI (N:Int)),(45,zqI 0)] (AHeap.rows 36 [(0,b),(22,.made (List.replicate N (.agg [.int .i8 (0),zqI 0,zqI 0,zqI 0,zqI 0])) 5 true),(25,.made (List.replicate N (zqI 0)) 1 true),(27,.made (List.replicate N (zqI 0)) 1 true),(29,.made (List.replicate N (zqI 0)) 1 true)]) (.exit 0) [(8,zqI room),(9,.slice (some ⟨22,0,0,0,5⟩) N N),(10,.slice (some ⟨25,0,0,0,1⟩) N N),(11,.slice (some ⟨27,0,0,0,1⟩) N N),(12,.slice (some ⟨29,0,0,0,1⟩) N N)] (AHeap.rows 41 [(0,b),(22,.made l 5 true),(25,.made m 1 true),(27,.made w 1 true),(29,.made v 1 true)]))(hc_13:FDoes Try.prog 40 [.slice (some ⟨25,0,0,0,1⟩) N N] (AHeap.rows 45 [(0,b),(22,.made l 5 true),(25,.made m 1 true),(27,.made w 1 true),(29,.made v 1 true)]) (zqI s1) (AHeap.rows 45 [(0,b),(22,.made l 5 true),(25,.made m 1 true),(27,.made w 1 true),(29,.made v 1 true)]))
include l m w v w2 s extent gap room s1 s2 hc_0 hc_1 hc_2 hc_3 hc_4 hc_5 hc_6 hc_8 hc_9 hc_10 hc_11 hc_12 hc_13
theorem sz_least(hc_14:s1>room)(hc_15:FDoes Try.prog 41 [zqI room,.slice (some ⟨25,0,0,0,1⟩) N N] (AHeap.rows 49 [(0,b),(22,.made l 5 true),(25,.made m 1 true),(27,.made w 1 true),(29,.made v 1 true)]) (.slice (some ⟨49,0,0,0,1⟩) N N) (AHeap.rows 50 [(0,b),(22,.made l 5 true),(25,.made m 1 true),(27,.made w 1 true),(29,.made v 1 true),(49,.made s 1 true)])) :
    FDoes Try.prog 16 [.slice o N c,zqI extent,zqI gap] (AHeap.of [b]) (.slice (some ⟨49,0,0,0,1⟩) N N) (AHeap.rows 50 [(0,b),(22,.made l 5 true),(25,.made m 1 true),(27,.made w 1 true),(29,.made v 1 true),(49,.made s 1 true)]) :=
  pcall_does env_ok mixed (hs:= [.val 2001 (.bool false),.val 2004 (.bool false),.val 4001 (zqI (sideZ extent)),.val 4003 (zqI (sideZ gap)),.go 4005,.go 4006,.go 4007,.go 5001,.go 6001,.go 6003,.go 6005,.keep [8,9,10,11,12,43,44,45],.loop (zq61_7 room N) (AHeap.rows 41 (zq61_6 b l m w v)) (.exit 0),.val 22001 (zqI s1),.val 22003 (.bool true),.act 23002 (.slice (some ⟨49,0,0,0,1⟩) N N) (fun h=>h.upd [] [.made s 1 true])]) (rs:= []) (by kernel_rfl) (All.cons (eqF hc_0) (All.cons (okF hc_1) (All.cons (CallT.mk hc_2) (All.cons (CallT.mk hc_3) (All.cons hc_4 (All.cons hc_5 (All.cons hc_6 (All.cons (show Agree [zqI extent] [zqI gap] (AHeap.rows 21 [(0,b)]) (AHeap.rows 21 [(0,b)]) (zqI (sideZ extent)) (zqI (sideZ gap)) (AHeap.rows 21 [(0,b)]) (AHeap.rows 21 [(0,b)])from⟨by intro hh _;first | (simp at hh;done) | (simp at hh;simp [hh]) | exact⟨rfl,rfl⟩⟩) (All.cons hc_8 (All.cons hc_9 (All.cons hc_10 (All.cons hc_11 (All.cons hc_12 (All.cons (CallT.mk hc_13) (All.cons (okT hc_14) (All.cons (CallT.mk hc_15) (All.nil)))))))))))))))))
section
variable(hc_14: ¬ (s1>room))(hc_15:FDoes Try.prog 40 [.slice (some ⟨27,0,0,0,1⟩) N N] (AHeap.rows 50 [(0,b),(22,.made l 5 true),(25,.made m 1 true),(27,.made w 1 true),(29,.made v 1 true)]) (zqI s2) (AHeap.rows 50 [(0,b),(22,.made l 5 true),(25,.made m 1 true),(27,.made w 1 true),(29,.made v 1 true)]))(hc_16:zqF (s2-room))
include hc_14 hc_15 hc_16
theorem sz_wants(hc_17:s2-room>0)(hc_18:FDoes Try.prog 41 [zqI (s2-room),.slice (some ⟨29,0,0,0,1⟩) N N] (AHeap.rows 57 [(0,b),(22,.made l 5 true),(25,.made m 1 true),(27,.made w 1 true),(29,.made v 1 true)]) (.slice (some ⟨57,0,0,0,1⟩) N N) (AHeap.rows 58 [(0,b),(22,.made l 5 true),(25,.made m 1 true),(27,.made w 1 true),(29,.made v 1 true),(57,.made s 1 true)]))(hc_19:Runs Try.prog 1 142 (.loop (loopAt Try.prog 16 1)) [(11,.slice (some ⟨27,0,0,0,1⟩) N N),(121,.slice (some ⟨57,0,0,0,1⟩) N N),(122,zqI (N:Int)),(123,zqI 0)] (AHeap.rows 58 [(0,b),(22,.made l 5 true),(25,.made m 1 true),(27,.made w 1 true),(29,.made v 1 true),(57,.made s 1 true)]) (.exit 3) [(11,.slice (some ⟨27,0,0,0,1⟩) N N)] (AHeap.rows 91 [(0,b),(27,.made w2 1 true),(57,.made s 1 true)])) :
    FDoes Try.prog 16 [.slice o N c,zqI extent,zqI gap] (AHeap.of [b]) (.slice (some ⟨27,0,0,0,1⟩) N N) (AHeap.rows 93 [(0,b),(27,.made w2 1 true),(57,.made s 1 true)]) :=
  pcall_does env_ok mixed (hs:= [.val 2001 (.bool false),.val 2004 (.bool false),.val 4001 (zqI (sideZ extent)),.val 4003 (zqI (sideZ gap)),.go 4005,.go 4006,.go 4007,.go 5001,.go 6001,.go 6003,.go 6005,.keep [8,9,10,11,12,43,44,45],.loop (zq61_7 room N) (AHeap.rows 41 (zq61_6 b l m w v)) (.exit 0),.val 22001 (zqI s1),.val 22003 (.bool false),.val 24001 (zqI s2),.go 24003,.val 25001 (.bool true),.act 26002 (.slice (some ⟨57,0,0,0,1⟩) N N) (fun h=>h.upd [] [.made s 1 true]),.keep [11,121,122,123],.loop [(11,.slice (some ⟨27,0,0,0,1⟩) N N)] (AHeap.rows 91 [(0,b),(27,.made w2 1 true),(57,.made s 1 true)]) (.exit 3)]) (rs:= []) (by kernel_rfl) (All.cons (eqF hc_0) (All.cons (okF hc_1) (All.cons (CallT.mk hc_2) (All.cons (CallT.mk hc_3) (All.cons hc_4 (All.cons hc_5 (All.cons hc_6 (All.cons (show Agree [zqI extent] [zqI gap] (AHeap.rows 21 [(0,b)]) (AHeap.rows 21 [(0,b)]) (zqI (sideZ extent)) (zqI (sideZ gap)) (AHeap.rows 21 [(0,b)]) (AHeap.rows 21 [(0,b)])from⟨by intro hh _;first | (simp at hh;done) | (simp at hh;simp [hh]) | exact⟨rfl,rfl⟩⟩) (All.cons hc_8 (All.cons hc_9 (All.cons hc_10 (All.cons hc_11 (All.cons hc_12 (All.cons (CallT.mk hc_13) (All.cons (okF hc_14) (All.cons (CallT.mk hc_15) (All.cons hc_16 (All.cons (okT hc_17) (All.cons (CallT.mk hc_18) (All.cons hc_19 (All.nil)))))))))))))))))))))
theorem sz_fills(hc_17: ¬ (s2-room>0))(hc_18:FDoes Try.prog 42 [.slice (some ⟨22,0,0,0,5⟩) N N,.slice (some ⟨27,0,0,0,1⟩) N N,zqI room] (AHeap.rows 56 [(0,b),(22,.made l 5 true),(25,.made m 1 true),(27,.made w 1 true),(29,.made v 1 true)]) (.tuple []) (AHeap.rows 56 [(0,b),(22,.made l 5 true),(25,.made m 1 true),(27,.made w2 1 true),(29,.made v 1 true)])) :
    FDoes Try.prog 16 [.slice o N c,zqI extent,zqI gap] (AHeap.of [b]) (.slice (some ⟨27,0,0,0,1⟩) N N) (AHeap.rows 58 [(0,b),(22,.made l 5 true),(25,.made m 1 true),(27,.made w2 1 true),(29,.made v 1 true)]) :=
  pcall_does env_ok mixed (hs:= [.val 2001 (.bool false),.val 2004 (.bool false),.val 4001 (zqI (sideZ extent)),.val 4003 (zqI (sideZ gap)),.go 4005,.go 4006,.go 4007,.go 5001,.go 6001,.go 6003,.go 6005,.keep [8,9,10,11,12,43,44,45],.loop (zq61_7 room N) (AHeap.rows 41 (zq61_6 b l m w v)) (.exit 0),.val 22001 (zqI s1),.val 22003 (.bool false),.val 24001 (zqI s2),.go 24003,.val 25001 (.bool false),.act 32003 (.tuple []) (fun h=>h.upd [22,27] [.made l 5 true,.made w2 1 true])]) (rs:= []) (by kernel_rfl) (All.cons (eqF hc_0) (All.cons (okF hc_1) (All.cons (CallT.mk hc_2) (All.cons (CallT.mk hc_3) (All.cons hc_4 (All.cons hc_5 (All.cons hc_6 (All.cons (show Agree [zqI extent] [zqI gap] (AHeap.rows 21 [(0,b)]) (AHeap.rows 21 [(0,b)]) (zqI (sideZ extent)) (zqI (sideZ gap)) (AHeap.rows 21 [(0,b)]) (AHeap.rows 21 [(0,b)])from⟨by intro hh _;first | (simp at hh;done) | (simp at hh;simp [hh]) | exact⟨rfl,rfl⟩⟩) (All.cons hc_8 (All.cons hc_9 (All.cons hc_10 (All.cons hc_11 (All.cons hc_12 (All.cons (CallT.mk hc_13) (All.cons (okF hc_14) (All.cons (CallT.mk hc_15) (All.cons hc_16 (All.cons (okF hc_17) (All.cons (CallT.mk hc_18) (All.nil))))))))))))))))))))
end
end
end
end Go.Proofs.Ytgfkllnaeekjeaa
namespace Go.Proofs.Ytgfkllnaeekjeaa
open Go.Lift
set_option maxRecDepth 1000000
def It.right(t:It):Bool:=rightB t.k t.n t.d t.mn t.mx
def It0:It:=⟨0,0,0,0,0⟩
def It1:It:=⟨1,0,0,0,0⟩
def effI(t:It):It:=if t.right=true then t else It1
structure RightIt(t:It):Prop where
  mn:0≤t.mn∧t.mn≤4096
  mx:t.mx=0∨(1≤t.mx∧t.mx≤4096∧t.mn≤t.mx)
  kind:(t.k=0∧t.n=0∧t.d=0)∨(t.k=1∧0≤t.n∧t.n≤4096∧t.d=0)∨(t.k=2∧0≤t.n∧t.n≤1000∧1≤t.d∧t.d≤1000)∨(t.k=3∧1≤t.n∧t.n≤1000∧t.d=0)
theorem right_iff(t:It):t.right=true↔RightIt t:=by
  unfold It.right rightB
  rw [decide_eq_true_eq]
  exact⟨fun⟨a,b,c,d⟩=>⟨⟨a,b⟩,c,d⟩,fun h=>⟨h.mn.1,h.mn.2,h.mx,h.kind⟩⟩
theorem effI_right(t:It):RightIt (effI t):=by
  unfold effI
  by_cases c:t.right=true
  · rw [if_pos c];exact(right_iff t).1 c
  · rw [if_neg c];exact⟨by simp [It1],by simp [It1],by simp [It1]⟩
theorem RightIt.fill {t:It}(h:RightIt t)(hk:t.k=3):FillIt t:=by
  have:=h.kind
  have:=h.mx
  exact⟨by omega,h.mn,by omega⟩
def wantZ(room:Int)(t:It):Int:=if t.k=2 then intoZ t.mn t.mx (t.n*room / t.d)else if t.k=3 then t.mn else intoZ t.mn t.mx t.n
theorem intoZ_range {mn mx x M:Int}(h0:0≤mn)(h1:mx=0∨(1≤mx∧mn≤mx))(hM:mn≤M)(hx:x≤M):mn≤intoZ mn mx x∧intoZ mn mx x≤M:=by
  unfold intoZ
  split<;>omega
theorem part_range {t:It}(h:RightIt t)(hk:t.k=2){room:Int}(hr:0≤room∧room≤4096):0≤t.n*room∧t.n*room≤2^22∧1≤t.d∧0≤t.n*room / t.d∧t.n*room / t.d≤2^22:=by
  have hd:0≤t.n∧t.n≤1000∧1≤t.d:=by have:=h.kind;omega
  have h1:=mul_range hd.1 hd.2.1 hr.1 hr.2
  have h2:=Int.ediv_le_self t.d h1.1
  have h3:0≤t.n*room / t.d:=Int.ediv_nonneg h1.1 (by omega)
  omega
theorem wantZ_range {t:It}(h:RightIt t){room:Int}(hr:0≤room∧room≤4096):t.mn≤wantZ room t∧wantZ room t≤2^22:=by
  have h1:=h.mn
  have h2:=h.mx
  unfold wantZ
  split
  · rename_i hk
    have:=part_range h hk hr
    exact intoZ_range h1.1 (by omega) (by omega) (by omega)
  · split
    · omega
    · have:=h.kind
      exact intoZ_range h1.1 (by omega) (by omega) (by omega)
theorem irows_congr {N:Nat}{f g:Nat→It}(h: ∀ j,j<N→f j=g j):irows N f=irows N g:=List.map_congr_left fun j hj=>by rw [h j (List.mem_range.1 hj)]
theorem irows_step {N:Nat}{y z:Nat→It}{i:Nat} :(irows N (fun j=>if j<i then y j else z j)).set i (y i).val=irows N (fun j=>if j<i+1 then y j else z j):=by
  apply List.ext_getElem (by simp [irows])
  intro j h1 h2
  rw [List.getElem_set]
  simp only [irows,List.getElem_map,List.getElem_range]
  by_cases e:i=j
  · subst e;simp
  · rw [if_neg e]
    by_cases c:j<i
    · rw [if_pos c,if_pos (by omega)]
    · rw [if_neg c,if_neg (by omega)]
theorem irows_zero(N:Nat):List.replicate N It0.val=irows N fun _=>It0:=by
  apply List.ext_getElem (by simp [irows])
  intro j h1 h2
  simp [irows]
theorem ix_itS {o:Option AAddr}{n c id ver off:Nat}(h:SlArg o n c id ver off 5){k:IntKind}{i:Nat}(hi:i<n) :
    aindexAddr env.D 26 (.slice o n c) (.int k i)=some (.ptr (some ⟨id,ver,off+i,0,5⟩)):=by
  have h1:(env.D 24).map (·.size)=some 5:=by kernel_rfl
  cases hd:env.D 24 with
  | none=>rw [hd]at h1;cases h1
  | some xd =>
    rw [hd]at h1
    have h2:5=xd.size:=by simpa using h1.symm
    have:=h.index (D:=env.D) (t:=26) (e:=24) (d:=⟨.slice 24,1,24,some (.slice none 0 0)⟩) (xd:=xd) (by kernel_rfl) rfl hd h2 (k:=k) (i:=(i:Int)) (by omega) (by omega)
    simpa using this
structure ItemsAt(H:AHeap)(o:Option AAddr)(n c id ver off:Nat)(b:ABlk)(src:Nat→It):Prop where
  sl:SlArg o n c id ver off 5
  get:H.get id=some b
  lt:id<H.next
  bare:BareB b
  el: ∀ j,j<n→b.elem? ver (off+j)=some (src j).val
noncomputable abbrev HS(K N:Nat)(b:ABlk)(l:Nat→It)(m w v:Nat→Int):AHeap:=AHeap.rows K [(0,b),(22,.made (irows N l) 5 true),(25,IRow N m),(27,IRow N w),(29,IRow N v)]
abbrev upto {α:Type}(i:Nat)(f:Nat→α)(z:α)(j:Nat):α:=if j<i then f j else z
section
variable {N:Nat}(hN:N≤4096){o:Option AAddr}{c ver off:Nat}{b:ABlk}(hs:SlArg o N c 0 ver off 5)(hb:BareB b){src:Nat→It}(hel: ∀ j,j<N→b.elem? ver (off+j)=some (src j).val){room:Int}(hr:0≤room∧room≤4096)
include hN hs hb hel hr
theorem sz_loop: ∀ (f i:Nat),i+f=N →
    Loops Try.prog 1 142 (loopAt Try.prog 16 0) [(8,.int .i64 room),(9,.slice (some ⟨22,0,0,0,5⟩) N N),(10,.slice (some ⟨25,0,0,0,1⟩) N N),(11,.slice (some ⟨27,0,0,0,1⟩) N N),(12,.slice (some ⟨29,0,0,0,1⟩) N N),(43,.slice o N c),(44,.int .i64 N),(45,.int .i64 i)]
      (AHeap.rows 40 [(0,b),(22,.made (irows N fun j=>if j<i then effI (src j)else It0) 5 true),(25,IRow N fun j=>if j<i then(effI (src j)).mn else 0),(27,IRow N fun j=>if j<i then wantZ room (effI (src j))else 0),(29,IRow N fun j=>if j<i then wantZ room (effI (src j))- (effI (src j)).mn else 0)]) (.exit 0)
      [(8,.int .i64 room),(9,.slice (some ⟨22,0,0,0,5⟩) N N),(10,.slice (some ⟨25,0,0,0,1⟩) N N),(11,.slice (some ⟨27,0,0,0,1⟩) N N),(12,.slice (some ⟨29,0,0,0,1⟩) N N)]
      (AHeap.rows 41 [(0,b),(22,.made (irows N fun j=>if j<N then effI (src j)else It0) 5 true),(25,IRow N fun j=>if j<N then(effI (src j)).mn else 0),(27,IRow N fun j=>if j<N then wantZ room (effI (src j))else 0),(29,IRow N fun j=>if j<N then wantZ room (effI (src j))- (effI (src j)).mn else 0)])
  | 0,i,e=>by
    obtain rfl:i=N:=by omega
    exact Loops.last (by simp) (sz_end i i c o b _ _ _ _ room (by omega))
  | f + 1,i,e=>by
    have hi:i<N:=by omega
    have hc:Clo (Ids [0,22,25,27,29]) (.slice o N c):=hs.clo (by simp [Ids])
    have ih:=sz_loop f (i+1) (by omega)
    have ix5:aindexAddr env.D 26 (.slice (some ⟨22,0,0,0,5⟩) N N) (.int .i64 (i:Int))=some (.ptr (some ⟨22,0,i,0,5⟩)):=by
      have:=ix_itS (o:=some ⟨22,0,0,0,5⟩) (n:=N) (c:=N) (.inl rfl) (k:= .i64) hi
      rwa [Nat.zero_add]at this
    have o0:(irows N fun j=>if j<i then effI (src j)else It0)[i]? =some It0.val:=by rw [irows_get hi];simp
    have o1: ∀ g:Nat→Int,(ints N fun j=>if j<i then g j else 0)[i]? =some (.int .i64 0):=fun g=>by rw [ints_get hi];simp
    have rd: ∀ (g:Nat→Int) (x:Int),(ABlk.made (List.set (ints N fun j=>if j<i then g j else 0) i (.int .i64 x)) 1 true).elem? 0 i=some (.int .i64 x):=fun g x=>elem_made (by rw [ints_set,ints_get hi];simp)
    have fin: ∀ (K:Nat) (tb:ABlk) (l m w v:List AVal) (hl:l=irows N fun j=>if j<i+1 then effI (src j)else It0) (hm:m=ints N fun j=>if j<i+1 then(effI (src j)).mn else 0) (hw:w=ints N fun j=>if j<i+1 then wantZ room (effI (src j))else 0) (hv:v=ints N fun j=>if j<i+1 then wantZ room (effI (src j))- (effI (src j)).mn else 0)
        (hk: [(0,b),(22,ABlk.made l 5 true),(25,.made m 1 true),(27,.made w 1 true),(29,.made v 1 true)].map (fun p=>(AHeap.rows K [(0,b),(22,ABlk.made l 5 true),(25,.made m 1 true),(27,.made w 1 true),(29,.made v 1 true),(44,tb)]).get p.1)= [(0,b),(22,ABlk.made l 5 true),(25,.made m 1 true),(27,.made w 1 true),(29,.made v 1 true)].map (fun p=>some p.2)),
        Ent 1 142 [(8,.int .i64 room),(9,.slice (some ⟨22,0,0,0,5⟩) N N),(10,.slice (some ⟨25,0,0,0,1⟩) N N),(11,.slice (some ⟨27,0,0,0,1⟩) N N),(12,.slice (some ⟨29,0,0,0,1⟩) N N),(43,.slice o N c),(44,.int .i64 N),(45,.int .i64 (i+1:Nat))] (AHeap.rows K [(0,b),(22,ABlk.made l 5 true),(25,.made m 1 true),(27,.made w 1 true),(29,.made v 1 true),(44,tb)])
          [(8,.int .i64 room),(9,.slice (some ⟨22,0,0,0,5⟩) N N),(10,.slice (some ⟨25,0,0,0,1⟩) N N),(11,.slice (some ⟨27,0,0,0,1⟩) N N),(12,.slice (some ⟨29,0,0,0,1⟩) N N),(43,.slice o N c),(44,.int .i64 N),(45,.int .i64 (i+1:Nat))]
          (AHeap.rows 40 [(0,b),(22,.made (irows N fun j=>if j<i+1 then effI (src j)else It0) 5 true),(25,IRow N fun j=>if j<i+1 then(effI (src j)).mn else 0),(27,IRow N fun j=>if j<i+1 then wantZ room (effI (src j))else 0),(29,IRow N fun j=>if j<i+1 then wantZ room (effI (src j))- (effI (src j)).mn else 0)]):=by
      intro K tb l m w v hl hm hw hv hk
      subst hl;subst hm;subst hw;subst hv
      exact Ent.drop hk (by kernel_rfl) (by kernel_rfl) (by kernel_rfl) (by simp only [List.map,All_cons,All_nil,and_true];exact⟨by simp [Clo],by simp [Clo,Ids],by simp [Clo,Ids],by simp [Clo,Ids],by simp [Clo,Ids],hc,by simp [Clo],by simp [Clo]⟩) (by
        simp only [List.map,All_cons,All_nil,and_true]
        exact⟨hb.clo _,(irows_bare _ _).clo _,(irow_bare _ _).clo _,(irow_bare _ _).clo _,(irow_bare _ _).clo _⟩)
    have eff:=effI_right (src i)
    have wr:=wantZ_range eff hr
    have mnr:=eff.mn
    by_cases cr:(src i).right=true
    · have e1:effI (src i)=src i:=by unfold effI;rw [if_pos cr]
      have rt:=right_does (src i).k (src i).n (src i).d (src i).mn (src i).mx
      rw [show rightB (src i).k (src i).n (src i).d (src i).mn (src i).mx=true from cr]at rt
      have l1:List.set (irows N fun j=>if j<i then effI (src j)else It0) i (src i).val=irows N fun j=>if j<i+1 then effI (src j)else It0:=by
        rw [← irows_step (y:=fun j=>effI (src j)) (z:=fun _=>It0)];simp only [e1]
      have m1:List.set (ints N fun j=>if j<i then(effI (src j)).mn else 0) i (.int .i64 (src i).mn)=ints N fun j=>if j<i+1 then(effI (src j)).mn else 0:=by
        rw [← ints_step (y:=fun j=>(effI (src j)).mn) (z:=fun _=>0)];simp only [e1]
      rw [e1]at wr mnr eff
      by_cases c2:(src i).k=2
      · have pr:=part_range eff c2 hr
        have eq:Int.tdiv ((src i).n*room) (src i).d=(src i).n*room / (src i).d:=Int.tdiv_eq_ediv_of_nonneg pr.1
        have ew:wantZ room (src i)=intoZ (src i).mn (src i).mx (Int.tdiv ((src i).n*room) (src i).d):=by unfold wantZ;rw [if_pos c2,eq]
        have w1:List.set (ints N fun j=>if j<i then wantZ room (effI (src j))else 0) i (.int .i64 (wantZ room (src i)))=ints N fun j=>if j<i+1 then wantZ room (effI (src j))else 0:=by
          rw [← ints_step (y:=fun j=>wantZ room (effI (src j))) (z:=fun _=>0)];simp only [e1]
        have v1:List.set (ints N fun j=>if j<i then wantZ room (effI (src j))- (effI (src j)).mn else 0) i (.int .i64 (wantZ room (src i)- (src i).mn))=ints N fun j=>if j<i+1 then wantZ room (effI (src j))- (effI (src j)).mn else 0:=by
          rw [← ints_step (y:=fun j=>wantZ room (effI (src j))- (effI (src j)).mn) (z:=fun _=>0)];simp only [e1]
        have s:=sz_P N i c ver off o b (irows N fun j=>if j<i then effI (src j)else It0) (ints N fun j=>if j<i then(effI (src j)).mn else 0) (ints N fun j=>if j<i then wantZ room (effI (src j))else 0) (ints N fun j=>if j<i then wantZ room (effI (src j))- (effI (src j)).mn else 0)
          (src i).k (src i).n (src i).d (src i).mn (src i).mx room (wantZ room (src i)) 0 0 0 (by omega) (ix_itS hs hi) (hel i hi) (rt _) ix5 ⟨rfl,o0⟩ (ixR hi) ⟨rfl,o1 _⟩ c2 (by omega) ⟨by omega,by rw [eq];omega⟩ (by rw [ew];exact into_does _ _ _ _ _ _ _) (ixR hi) ⟨rfl,o1 _⟩ (ixR hi) (rd _ _) (ixR hi) (rd _ _) (by omega) (ixR hi) ⟨rfl,o1 _⟩ (by omega)
        exact Loops.step (s.post (fin _ _ _ _ _ _ l1 m1 w1 v1 (by kernel_rfl))) ih
      · by_cases c3:(src i).k=3
        · have ew:wantZ room (src i)=(src i).mn:=by unfold wantZ;rw [if_neg c2,if_pos c3]
          have w1:List.set (ints N fun j=>if j<i then wantZ room (effI (src j))else 0) i (.int .i64 (src i).mn)=ints N fun j=>if j<i+1 then wantZ room (effI (src j))else 0:=by
            rw [← ints_step (y:=fun j=>wantZ room (effI (src j))) (z:=fun _=>0)];simp only [e1,ew]
          have v1:List.set (ints N fun j=>if j<i then wantZ room (effI (src j))- (effI (src j)).mn else 0) i (.int .i64 ((src i).mn- (src i).mn))=ints N fun j=>if j<i+1 then wantZ room (effI (src j))- (effI (src j)).mn else 0:=by
            rw [← ints_step (y:=fun j=>wantZ room (effI (src j))- (effI (src j)).mn) (z:=fun _=>0)];simp only [e1,ew]
          have s:=sz_F N i c ver off o b (irows N fun j=>if j<i then effI (src j)else It0) (ints N fun j=>if j<i then(effI (src j)).mn else 0) (ints N fun j=>if j<i then wantZ room (effI (src j))else 0) (ints N fun j=>if j<i then wantZ room (effI (src j))- (effI (src j)).mn else 0)
            (src i).k (src i).n (src i).d (src i).mn (src i).mx room 0 0 0 0 (by omega) (ix_itS hs hi) (hel i hi) (rt _) ix5 ⟨rfl,o0⟩ (ixR hi) ⟨rfl,o1 _⟩ c2 c3 (ixR hi) ⟨rfl,o1 _⟩ (ixR hi) (rd _ _) (ixR hi) (rd _ _) (by omega) (ixR hi) ⟨rfl,o1 _⟩ (by omega)
          exact Loops.step (s.post (fin _ _ _ _ _ _ l1 m1 w1 v1 (by kernel_rfl))) ih
        · have ew:wantZ room (src i)=intoZ (src i).mn (src i).mx (src i).n:=by unfold wantZ;rw [if_neg c2,if_neg c3]
          have w1:List.set (ints N fun j=>if j<i then wantZ room (effI (src j))else 0) i (.int .i64 (wantZ room (src i)))=ints N fun j=>if j<i+1 then wantZ room (effI (src j))else 0:=by
            rw [← ints_step (y:=fun j=>wantZ room (effI (src j))) (z:=fun _=>0)];simp only [e1]
          have v1:List.set (ints N fun j=>if j<i then wantZ room (effI (src j))- (effI (src j)).mn else 0) i (.int .i64 (wantZ room (src i)- (src i).mn))=ints N fun j=>if j<i+1 then wantZ room (effI (src j))- (effI (src j)).mn else 0:=by
            rw [← ints_step (y:=fun j=>wantZ room (effI (src j))- (effI (src j)).mn) (z:=fun _=>0)];simp only [e1]
          have s:=sz_O N i c ver off o b (irows N fun j=>if j<i then effI (src j)else It0) (ints N fun j=>if j<i then(effI (src j)).mn else 0) (ints N fun j=>if j<i then wantZ room (effI (src j))else 0) (ints N fun j=>if j<i then wantZ room (effI (src j))- (effI (src j)).mn else 0)
            (src i).k (src i).n (src i).d (src i).mn (src i).mx room (wantZ room (src i)) 0 0 0 (by omega) (ix_itS hs hi) (hel i hi) (rt _) ix5 ⟨rfl,o0⟩ (ixR hi) ⟨rfl,o1 _⟩ c2 c3 (by rw [ew];exact into_does _ _ _ _ _ _ _) (ixR hi) ⟨rfl,o1 _⟩ (ixR hi) (rd _ _) (ixR hi) (rd _ _) (by omega) (ixR hi) ⟨rfl,o1 _⟩ (by omega)
          exact Loops.step (s.post (fin _ _ _ _ _ _ l1 m1 w1 v1 (by kernel_rfl))) ih
    · have e1:effI (src i)=It1:=by unfold effI;rw [if_neg cr]
      have rt:=right_does (src i).k (src i).n (src i).d (src i).mn (src i).mx
      rw [show rightB (src i).k (src i).n (src i).d (src i).mn (src i).mx=false by simpa [It.right]using cr]at rt
      have l1:List.set (irows N fun j=>if j<i then effI (src j)else It0) i It1.val=irows N fun j=>if j<i+1 then effI (src j)else It0:=by
        rw [← irows_step (y:=fun j=>effI (src j)) (z:=fun _=>It0)];simp only [e1]
      have m1:List.set (ints N fun j=>if j<i then(effI (src j)).mn else 0) i (.int .i64 0)=ints N fun j=>if j<i+1 then(effI (src j)).mn else 0:=by
        rw [← ints_step (y:=fun j=>(effI (src j)).mn) (z:=fun _=>0)];simp only [e1];rfl
      have ew:wantZ room It1=intoZ 0 0 0:=rfl
      have w1:List.set (ints N fun j=>if j<i then wantZ room (effI (src j))else 0) i (.int .i64 (intoZ 0 0 0))=ints N fun j=>if j<i+1 then wantZ room (effI (src j))else 0:=by
        rw [← ints_step (y:=fun j=>wantZ room (effI (src j))) (z:=fun _=>0)];simp only [e1,ew]
      have v1:List.set (ints N fun j=>if j<i then wantZ room (effI (src j))- (effI (src j)).mn else 0) i (.int .i64 (intoZ 0 0 0-0))=ints N fun j=>if j<i+1 then wantZ room (effI (src j))- (effI (src j)).mn else 0:=by
        rw [← ints_step (y:=fun j=>wantZ room (effI (src j))- (effI (src j)).mn) (z:=fun _=>0)];simp only [e1,ew];rfl
      have s:=sz_W N i c ver off o b (irows N fun j=>if j<i then effI (src j)else It0) (ints N fun j=>if j<i then(effI (src j)).mn else 0) (ints N fun j=>if j<i then wantZ room (effI (src j))else 0) (ints N fun j=>if j<i then wantZ room (effI (src j))- (effI (src j)).mn else 0)
        (src i).k (src i).n (src i).d (src i).mn (src i).mx room (intoZ 0 0 0) 0 0 0 (by omega) (ix_itS hs hi) (hel i hi) (rt _) ix5 ⟨rfl,o0⟩ (ixR hi) ⟨rfl,o1 _⟩ (into_does _ _ _ _ _ _ _) (ixR hi) ⟨rfl,o1 _⟩ (ixR hi) (rd _ _) (ixR hi) (rd _ _) (by unfold intoZ;omega) (ixR hi) ⟨rfl,o1 _⟩ (by omega)
      exact Loops.step (s.post (fin _ _ _ _ _ _ l1 m1 w1 v1 (by kernel_rfl))) ih
end
end Go.Proofs.Ytgfkllnaeekjeaa
