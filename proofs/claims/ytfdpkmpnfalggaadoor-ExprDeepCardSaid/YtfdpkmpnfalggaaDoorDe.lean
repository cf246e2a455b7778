/- Two of the four families of texts of ExprDeep: how the plain functions answer. Plain evaluation by the kernel. -/
import Derived.Test.YtfdpkmpnfalggaaDoorDd
set_option linter.unusedVariables false
namespace Go.Proofs.YtfdpkmpnfalggaaDoor
theorem deep_0_0 : (List.range 10).all (fun n => deepOk (0 + n) 0) = true := by decide +kernel
theorem deep_0_10 : (List.range 10).all (fun n => deepOk (10 + n) 0) = true := by decide +kernel
theorem deep_0_20 : (List.range 10).all (fun n => deepOk (20 + n) 0) = true := by decide +kernel
theorem deep_0_30 : (List.range 10).all (fun n => deepOk (30 + n) 0) = true := by decide +kernel
theorem deep_0_40 : (List.range 10).all (fun n => deepOk (40 + n) 0) = true := by decide +kernel
theorem deep_0_50 : (List.range 10).all (fun n => deepOk (50 + n) 0) = true := by decide +kernel
theorem deep_0_60 : (List.range 10).all (fun n => deepOk (60 + n) 0) = true := by decide +kernel
theorem deep_0_70 : (List.range 10).all (fun n => deepOk (70 + n) 0) = true := by decide +kernel
theorem deep_0_80 : (List.range 10).all (fun n => deepOk (80 + n) 0) = true := by decide +kernel
theorem deep_0_90 : (List.range 10).all (fun n => deepOk (90 + n) 0) = true := by decide +kernel
theorem deep_0_100 : (List.range 10).all (fun n => deepOk (100 + n) 0) = true := by decide +kernel
theorem deep_0_110 : (List.range 10).all (fun n => deepOk (110 + n) 0) = true := by decide +kernel
theorem deep_0_120 : (List.range 1).all (fun n => deepOk (120 + n) 0) = true := by decide +kernel
theorem deep_0 (n : Nat) (hn : n ≤ 120) : deepOk n 0 = true := by
  by_cases h0 : n < 10
  · have := List.all_eq_true.1 deep_0_0 (n - 0) (List.mem_range.2 (by omega))
    rwa [show 0 + (n - 0) = n by omega] at this
  by_cases h10 : n < 20
  · have := List.all_eq_true.1 deep_0_10 (n - 10) (List.mem_range.2 (by omega))
    rwa [show 10 + (n - 10) = n by omega] at this
  by_cases h20 : n < 30
  · have := List.all_eq_true.1 deep_0_20 (n - 20) (List.mem_range.2 (by omega))
    rwa [show 20 + (n - 20) = n by omega] at this
  by_cases h30 : n < 40
  · have := List.all_eq_true.1 deep_0_30 (n - 30) (List.mem_range.2 (by omega))
    rwa [show 30 + (n - 30) = n by omega] at this
  by_cases h40 : n < 50
  · have := List.all_eq_true.1 deep_0_40 (n - 40) (List.mem_range.2 (by omega))
    rwa [show 40 + (n - 40) = n by omega] at this
  by_cases h50 : n < 60
  · have := List.all_eq_true.1 deep_0_50 (n - 50) (List.mem_range.2 (by omega))
    rwa [show 50 + (n - 50) = n by omega] at this
  by_cases h60 : n < 70
  · have := List.all_eq_true.1 deep_0_60 (n - 60) (List.mem_range.2 (by omega))
    rwa [show 60 + (n - 60) = n by omega] at this
  by_cases h70 : n < 80
  · have := List.all_eq_true.1 deep_0_70 (n - 70) (List.mem_range.2 (by omega))
    rwa [show 70 + (n - 70) = n by omega] at this
  by_cases h80 : n < 90
  · have := List.all_eq_true.1 deep_0_80 (n - 80) (List.mem_range.2 (by omega))
    rwa [show 80 + (n - 80) = n by omega] at this
  by_cases h90 : n < 100
  · have := List.all_eq_true.1 deep_0_90 (n - 90) (List.mem_range.2 (by omega))
    rwa [show 90 + (n - 90) = n by omega] at this
  by_cases h100 : n < 110
  · have := List.all_eq_true.1 deep_0_100 (n - 100) (List.mem_range.2 (by omega))
    rwa [show 100 + (n - 100) = n by omega] at this
  by_cases h110 : n < 120
  · have := List.all_eq_true.1 deep_0_110 (n - 110) (List.mem_range.2 (by omega))
    rwa [show 110 + (n - 110) = n by omega] at this
  by_cases h120 : n < 121
  · have := List.all_eq_true.1 deep_0_120 (n - 120) (List.mem_range.2 (by omega))
    rwa [show 120 + (n - 120) = n by omega] at this
  omega
theorem deep_1_0 : (List.range 10).all (fun n => deepOk (0 + n) 1) = true := by decide +kernel
theorem deep_1_10 : (List.range 10).all (fun n => deepOk (10 + n) 1) = true := by decide +kernel
theorem deep_1_20 : (List.range 10).all (fun n => deepOk (20 + n) 1) = true := by decide +kernel
theorem deep_1_30 : (List.range 10).all (fun n => deepOk (30 + n) 1) = true := by decide +kernel
theorem deep_1_40 : (List.range 10).all (fun n => deepOk (40 + n) 1) = true := by decide +kernel
theorem deep_1_50 : (List.range 10).all (fun n => deepOk (50 + n) 1) = true := by decide +kernel
theorem deep_1_60 : (List.range 10).all (fun n => deepOk (60 + n) 1) = true := by decide +kernel
theorem deep_1_70 : (List.range 10).all (fun n => deepOk (70 + n) 1) = true := by decide +kernel
theorem deep_1_80 : (List.range 10).all (fun n => deepOk (80 + n) 1) = true := by decide +kernel
theorem deep_1_90 : (List.range 10).all (fun n => deepOk (90 + n) 1) = true := by decide +kernel
theorem deep_1_100 : (List.range 10).all (fun n => deepOk (100 + n) 1) = true := by decide +kernel
theorem deep_1_110 : (List.range 10).all (fun n => deepOk (110 + n) 1) = true := by decide +kernel
theorem deep_1_120 : (List.range 1).all (fun n => deepOk (120 + n) 1) = true := by decide +kernel
theorem deep_1 (n : Nat) (hn : n ≤ 120) : deepOk n 1 = true := by
  by_cases h0 : n < 10
  · have := List.all_eq_true.1 deep_1_0 (n - 0) (List.mem_range.2 (by omega))
    rwa [show 0 + (n - 0) = n by omega] at this
  by_cases h10 : n < 20
  · have := List.all_eq_true.1 deep_1_10 (n - 10) (List.mem_range.2 (by omega))
    rwa [show 10 + (n - 10) = n by omega] at this
  by_cases h20 : n < 30
  · have := List.all_eq_true.1 deep_1_20 (n - 20) (List.mem_range.2 (by omega))
    rwa [show 20 + (n - 20) = n by omega] at this
  by_cases h30 : n < 40
  · have := List.all_eq_true.1 deep_1_30 (n - 30) (List.mem_range.2 (by omega))
    rwa [show 30 + (n - 30) = n by omega] at this
  by_cases h40 : n < 50
  · have := List.all_eq_true.1 deep_1_40 (n - 40) (List.mem_range.2 (by omega))
    rwa [show 40 + (n - 40) = n by omega] at this
  by_cases h50 : n < 60
  · have := List.all_eq_true.1 deep_1_50 (n - 50) (List.mem_range.2 (by omega))
    rwa [show 50 + (n - 50) = n by omega] at this
  by_cases h60 : n < 70
  · have := List.all_eq_true.1 deep_1_60 (n - 60) (List.mem_range.2 (by omega))
    rwa [show 60 + (n - 60) = n by omega] at this
  by_cases h70 : n < 80
  · have := List.all_eq_true.1 deep_1_70 (n - 70) (List.mem_range.2 (by omega))
    rwa [show 70 + (n - 70) = n by omega] at this
  by_cases h80 : n < 90
  · have := List.all_eq_true.1 deep_1_80 (n - 80) (List.mem_range.2 (by omega))
    rwa [show 80 + (n - 80) = n by omega] at this
  by_cases h90 : n < 100
  · have := List.all_eq_true.1 deep_1_90 (n - 90) (List.mem_range.2 (by omega))
    rwa [show 90 + (n - 90) = n by omega] at this
  by_cases h100 : n < 110
  · have := List.all_eq_true.1 deep_1_100 (n - 100) (List.mem_range.2 (by omega))
    rwa [show 100 + (n - 100) = n by omega] at this
  by_cases h110 : n < 120
  · have := List.all_eq_true.1 deep_1_110 (n - 110) (List.mem_range.2 (by omega))
    rwa [show 110 + (n - 110) = n by omega] at this
  by_cases h120 : n < 121
  · have := List.all_eq_true.1 deep_1_120 (n - 120) (List.mem_range.2 (by omega))
    rwa [show 120 + (n - 120) = n by omega] at this
  omega
end Go.Proofs.YtfdpkmpnfalggaaDoor
