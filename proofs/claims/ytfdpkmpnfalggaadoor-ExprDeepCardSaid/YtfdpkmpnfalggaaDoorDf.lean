/- Two of the four families of texts of ExprDeep: how the plain functions answer. Plain evaluation by the kernel. -/
import Derived.Test.YtfdpkmpnfalggaaDoorDd
set_option linter.unusedVariables false
namespace Go.Proofs.YtfdpkmpnfalggaaDoor
theorem deep_2_0 : (List.range 10).all (fun n => deepOk (0 + n) 2) = true := by decide +kernel
theorem deep_2_10 : (List.range 10).all (fun n => deepOk (10 + n) 2) = true := by decide +kernel
theorem deep_2_20 : (List.range 10).all (fun n => deepOk (20 + n) 2) = true := by decide +kernel
theorem deep_2_30 : (List.range 10).all (fun n => deepOk (30 + n) 2) = true := by decide +kernel
theorem deep_2_40 : (List.range 10).all (fun n => deepOk (40 + n) 2) = true := by decide +kernel
theorem deep_2_50 : (List.range 10).all (fun n => deepOk (50 + n) 2) = true := by decide +kernel
theorem deep_2_60 : (List.range 10).all (fun n => deepOk (60 + n) 2) = true := by decide +kernel
theorem deep_2_70 : (List.range 10).all (fun n => deepOk (70 + n) 2) = true := by decide +kernel
theorem deep_2_80 : (List.range 10).all (fun n => deepOk (80 + n) 2) = true := by decide +kernel
theorem deep_2_90 : (List.range 10).all (fun n => deepOk (90 + n) 2) = true := by decide +kernel
theorem deep_2_100 : (List.range 10).all (fun n => deepOk (100 + n) 2) = true := by decide +kernel
theorem deep_2_110 : (List.range 10).all (fun n => deepOk (110 + n) 2) = true := by decide +kernel
theorem deep_2_120 : (List.range 1).all (fun n => deepOk (120 + n) 2) = true := by decide +kernel
theorem deep_2 (n : Nat) (hn : n ≤ 120) : deepOk n 2 = true := by
  by_cases h0 : n < 10
  · have := List.all_eq_true.1 deep_2_0 (n - 0) (List.mem_range.2 (by omega))
    rwa [show 0 + (n - 0) = n by omega] at this
  by_cases h10 : n < 20
  · have := List.all_eq_true.1 deep_2_10 (n - 10) (List.mem_range.2 (by omega))
    rwa [show 10 + (n - 10) = n by omega] at this
  by_cases h20 : n < 30
  · have := List.all_eq_true.1 deep_2_20 (n - 20) (List.mem_range.2 (by omega))
    rwa [show 20 + (n - 20) = n by omega] at this
  by_cases h30 : n < 40
  · have := List.all_eq_true.1 deep_2_30 (n - 30) (List.mem_range.2 (by omega))
    rwa [show 30 + (n - 30) = n by omega] at this
  by_cases h40 : n < 50
  · have := List.all_eq_true.1 deep_2_40 (n - 40) (List.mem_range.2 (by omega))
    rwa [show 40 + (n - 40) = n by omega] at this
  by_cases h50 : n < 60
  · have := List.all_eq_true.1 deep_2_50 (n - 50) (List.mem_range.2 (by omega))
    rwa [show 50 + (n - 50) = n by omega] at this
  by_cases h60 : n < 70
  · have := List.all_eq_true.1 deep_2_60 (n - 60) (List.mem_range.2 (by omega))
    rwa [show 60 + (n - 60) = n by omega] at this
  by_cases h70 : n < 80
  · have := List.all_eq_true.1 deep_2_70 (n - 70) (List.mem_range.2 (by omega))
    rwa [show 70 + (n - 70) = n by omega] at this
  by_cases h80 : n < 90
  · have := List.all_eq_true.1 deep_2_80 (n - 80) (List.mem_range.2 (by omega))
    rwa [show 80 + (n - 80) = n by omega] at this
  by_cases h90 : n < 100
  · have := List.all_eq_true.1 deep_2_90 (n - 90) (List.mem_range.2 (by omega))
    rwa [show 90 + (n - 90) = n by omega] at this
  by_cases h100 : n < 110
  · have := List.all_eq_true.1 deep_2_100 (n - 100) (List.mem_range.2 (by omega))
    rwa [show 100 + (n - 100) = n by omega] at this
  by_cases h110 : n < 120
  · have := List.all_eq_true.1 deep_2_110 (n - 110) (List.mem_range.2 (by omega))
    rwa [show 110 + (n - 110) = n by omega] at this
  by_cases h120 : n < 121
  · have := List.all_eq_true.1 deep_2_120 (n - 120) (List.mem_range.2 (by omega))
    rwa [show 120 + (n - 120) = n by omega] at this
  omega
theorem deep_3_0 : (List.range 10).all (fun n => deepOk (0 + n) 3) = true := by decide +kernel
theorem deep_3_10 : (List.range 10).all (fun n => deepOk (10 + n) 3) = true := by decide +kernel
theorem deep_3_20 : (List.range 10).all (fun n => deepOk (20 + n) 3) = true := by decide +kernel
theorem deep_3_30 : (List.range 10).all (fun n => deepOk (30 + n) 3) = true := by decide +kernel
theorem deep_3_40 : (List.range 10).all (fun n => deepOk (40 + n) 3) = true := by decide +kernel
theorem deep_3_50 : (List.range 10).all (fun n => deepOk (50 + n) 3) = true := by decide +kernel
theorem deep_3_60 : (List.range 10).all (fun n => deepOk (60 + n) 3) = true := by decide +kernel
theorem deep_3_70 : (List.range 10).all (fun n => deepOk (70 + n) 3) = true := by decide +kernel
theorem deep_3_80 : (List.range 10).all (fun n => deepOk (80 + n) 3) = true := by decide +kernel
theorem deep_3_90 : (List.range 10).all (fun n => deepOk (90 + n) 3) = true := by decide +kernel
theorem deep_3_100 : (List.range 10).all (fun n => deepOk (100 + n) 3) = true := by decide +kernel
theorem deep_3_110 : (List.range 10).all (fun n => deepOk (110 + n) 3) = true := by decide +kernel
theorem deep_3_120 : (List.range 1).all (fun n => deepOk (120 + n) 3) = true := by decide +kernel
theorem deep_3 (n : Nat) (hn : n ≤ 120) : deepOk n 3 = true := by
  by_cases h0 : n < 10
  · have := List.all_eq_true.1 deep_3_0 (n - 0) (List.mem_range.2 (by omega))
    rwa [show 0 + (n - 0) = n by omega] at this
  by_cases h10 : n < 20
  · have := List.all_eq_true.1 deep_3_10 (n - 10) (List.mem_range.2 (by omega))
    rwa [show 10 + (n - 10) = n by omega] at this
  by_cases h20 : n < 30
  · have := List.all_eq_true.1 deep_3_20 (n - 20) (List.mem_range.2 (by omega))
    rwa [show 20 + (n - 20) = n by omega] at this
  by_cases h30 : n < 40
  · have := List.all_eq_true.1 deep_3_30 (n - 30) (List.mem_range.2 (by omega))
    rwa [show 30 + (n - 30) = n by omega] at this
  by_cases h40 : n < 50
  · have := List.all_eq_true.1 deep_3_40 (n - 40) (List.mem_range.2 (by omega))
    rwa [show 40 + (n - 40) = n by omega] at this
  by_cases h50 : n < 60
  · have := List.all_eq_true.1 deep_3_50 (n - 50) (List.mem_range.2 (by omega))
    rwa [show 50 + (n - 50) = n by omega] at this
  by_cases h60 : n < 70
  · have := List.all_eq_true.1 deep_3_60 (n - 60) (List.mem_range.2 (by omega))
    rwa [show 60 + (n - 60) = n by omega] at this
  by_cases h70 : n < 80
  · have := List.all_eq_true.1 deep_3_70 (n - 70) (List.mem_range.2 (by omega))
    rwa [show 70 + (n - 70) = n by omega] at this
  by_cases h80 : n < 90
  · have := List.all_eq_true.1 deep_3_80 (n - 80) (List.mem_range.2 (by omega))
    rwa [show 80 + (n - 80) = n by omega] at this
  by_cases h90 : n < 100
  · have := List.all_eq_true.1 deep_3_90 (n - 90) (List.mem_range.2 (by omega))
    rwa [show 90 + (n - 90) = n by omega] at this
  by_cases h100 : n < 110
  · have := List.all_eq_true.1 deep_3_100 (n - 100) (List.mem_range.2 (by omega))
    rwa [show 100 + (n - 100) = n by omega] at this
  by_cases h110 : n < 120
  · have := List.all_eq_true.1 deep_3_110 (n - 110) (List.mem_range.2 (by omega))
    rwa [show 110 + (n - 110) = n by omega] at this
  by_cases h120 : n < 121
  · have := List.all_eq_true.1 deep_3_120 (n - 120) (List.mem_range.2 (by omega))
    rwa [show 120 + (n - 120) = n by omega] at this
  omega
end Go.Proofs.YtfdpkmpnfalggaaDoor
