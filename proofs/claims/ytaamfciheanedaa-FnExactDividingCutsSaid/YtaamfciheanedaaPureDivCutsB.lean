/- DividingCuts: the law at some numbers of handles, by computation. -/
import Derived.Test.YtaamfciheanedaaPFnExactDividingCutsx5
namespace Go.Proofs.Ytaamfciheanedaa.Pure
open Go.Proofs.Ytaamfciheanedaa.PFnExactDividingCuts
set_option maxHeartbeats 80000000 in
set_option maxRecDepth 100000 in
theorem dc_1_0 : ∀ c ∈ List.range 3, laws_FnExactDividingCuts.f 2500 1 0 ((c + 0 : Nat) : Int) = some true := by decide +kernel
set_option maxHeartbeats 80000000 in
set_option maxRecDepth 100000 in
theorem dc_1_3 : ∀ c ∈ List.range 3, laws_FnExactDividingCuts.f 2500 1 0 ((c + 3 : Nat) : Int) = some true := by decide +kernel
set_option maxHeartbeats 80000000 in
set_option maxRecDepth 100000 in
theorem dc_1_6 : ∀ c ∈ List.range 3, laws_FnExactDividingCuts.f 2500 1 0 ((c + 6 : Nat) : Int) = some true := by decide +kernel
set_option maxHeartbeats 80000000 in
set_option maxRecDepth 100000 in
theorem dc_1_9 : ∀ c ∈ List.range 3, laws_FnExactDividingCuts.f 2500 1 0 ((c + 9 : Nat) : Int) = some true := by decide +kernel
set_option maxHeartbeats 80000000 in
set_option maxRecDepth 100000 in
theorem dc_1_12 : ∀ c ∈ List.range 3, laws_FnExactDividingCuts.f 2500 1 0 ((c + 12 : Nat) : Int) = some true := by decide +kernel
set_option maxHeartbeats 80000000 in
set_option maxRecDepth 100000 in
theorem dc_1_15 : ∀ c ∈ List.range 3, laws_FnExactDividingCuts.f 2500 1 0 ((c + 15 : Nat) : Int) = some true := by decide +kernel
set_option maxHeartbeats 80000000 in
set_option maxRecDepth 100000 in
theorem dc_1_18 : ∀ c ∈ List.range 3, laws_FnExactDividingCuts.f 2500 1 0 ((c + 18 : Nat) : Int) = some true := by decide +kernel
theorem dc_1 : ∀ c ∈ List.range 21, laws_FnExactDividingCuts.f 2500 1 0 ((c : Nat) : Int) = some true := by
  intro c hc
  rw [List.mem_range] at hc
  by_cases h0 : 0 ≤ c ∧ c < 3
  · have h := dc_1_0 (c - 0) (by rw [List.mem_range]; omega)
    rwa [show c - 0 + 0 = c by omega] at h
  by_cases h3 : 3 ≤ c ∧ c < 6
  · have h := dc_1_3 (c - 3) (by rw [List.mem_range]; omega)
    rwa [show c - 3 + 3 = c by omega] at h
  by_cases h6 : 6 ≤ c ∧ c < 9
  · have h := dc_1_6 (c - 6) (by rw [List.mem_range]; omega)
    rwa [show c - 6 + 6 = c by omega] at h
  by_cases h9 : 9 ≤ c ∧ c < 12
  · have h := dc_1_9 (c - 9) (by rw [List.mem_range]; omega)
    rwa [show c - 9 + 9 = c by omega] at h
  by_cases h12 : 12 ≤ c ∧ c < 15
  · have h := dc_1_12 (c - 12) (by rw [List.mem_range]; omega)
    rwa [show c - 12 + 12 = c by omega] at h
  by_cases h15 : 15 ≤ c ∧ c < 18
  · have h := dc_1_15 (c - 15) (by rw [List.mem_range]; omega)
    rwa [show c - 15 + 15 = c by omega] at h
  by_cases h18 : 18 ≤ c ∧ c < 21
  · have h := dc_1_18 (c - 18) (by rw [List.mem_range]; omega)
    rwa [show c - 18 + 18 = c by omega] at h
  omega
set_option maxHeartbeats 80000000 in
set_option maxRecDepth 100000 in
theorem dc_12_0 : ∀ c ∈ List.range 3, laws_FnExactDividingCuts.f 2500 12 0 ((c + 0 : Nat) : Int) = some true := by decide +kernel
set_option maxHeartbeats 80000000 in
set_option maxRecDepth 100000 in
theorem dc_12_3 : ∀ c ∈ List.range 3, laws_FnExactDividingCuts.f 2500 12 0 ((c + 3 : Nat) : Int) = some true := by decide +kernel
set_option maxHeartbeats 80000000 in
set_option maxRecDepth 100000 in
theorem dc_12_6 : ∀ c ∈ List.range 3, laws_FnExactDividingCuts.f 2500 12 0 ((c + 6 : Nat) : Int) = some true := by decide +kernel
set_option maxHeartbeats 80000000 in
set_option maxRecDepth 100000 in
theorem dc_12_9 : ∀ c ∈ List.range 3, laws_FnExactDividingCuts.f 2500 12 0 ((c + 9 : Nat) : Int) = some true := by decide +kernel
set_option maxHeartbeats 80000000 in
set_option maxRecDepth 100000 in
theorem dc_12_12 : ∀ c ∈ List.range 3, laws_FnExactDividingCuts.f 2500 12 0 ((c + 12 : Nat) : Int) = some true := by decide +kernel
set_option maxHeartbeats 80000000 in
set_option maxRecDepth 100000 in
theorem dc_12_15 : ∀ c ∈ List.range 3, laws_FnExactDividingCuts.f 2500 12 0 ((c + 15 : Nat) : Int) = some true := by decide +kernel
set_option maxHeartbeats 80000000 in
set_option maxRecDepth 100000 in
theorem dc_12_18 : ∀ c ∈ List.range 3, laws_FnExactDividingCuts.f 2500 12 0 ((c + 18 : Nat) : Int) = some true := by decide +kernel
theorem dc_12 : ∀ c ∈ List.range 21, laws_FnExactDividingCuts.f 2500 12 0 ((c : Nat) : Int) = some true := by
  intro c hc
  rw [List.mem_range] at hc
  by_cases h0 : 0 ≤ c ∧ c < 3
  · have h := dc_12_0 (c - 0) (by rw [List.mem_range]; omega)
    rwa [show c - 0 + 0 = c by omega] at h
  by_cases h3 : 3 ≤ c ∧ c < 6
  · have h := dc_12_3 (c - 3) (by rw [List.mem_range]; omega)
    rwa [show c - 3 + 3 = c by omega] at h
  by_cases h6 : 6 ≤ c ∧ c < 9
  · have h := dc_12_6 (c - 6) (by rw [List.mem_range]; omega)
    rwa [show c - 6 + 6 = c by omega] at h
  by_cases h9 : 9 ≤ c ∧ c < 12
  · have h := dc_12_9 (c - 9) (by rw [List.mem_range]; omega)
    rwa [show c - 9 + 9 = c by omega] at h
  by_cases h12 : 12 ≤ c ∧ c < 15
  · have h := dc_12_12 (c - 12) (by rw [List.mem_range]; omega)
    rwa [show c - 12 + 12 = c by omega] at h
  by_cases h15 : 15 ≤ c ∧ c < 18
  · have h := dc_12_15 (c - 15) (by rw [List.mem_range]; omega)
    rwa [show c - 15 + 15 = c by omega] at h
  by_cases h18 : 18 ≤ c ∧ c < 21
  · have h := dc_12_18 (c - 18) (by rw [List.mem_range]; omega)
    rwa [show c - 18 + 18 = c by omega] at h
  omega
set_option maxHeartbeats 80000000 in
set_option maxRecDepth 100000 in
theorem dc_15_0 : ∀ c ∈ List.range 3, laws_FnExactDividingCuts.f 2500 15 0 ((c + 0 : Nat) : Int) = some true := by decide +kernel
set_option maxHeartbeats 80000000 in
set_option maxRecDepth 100000 in
theorem dc_15_3 : ∀ c ∈ List.range 3, laws_FnExactDividingCuts.f 2500 15 0 ((c + 3 : Nat) : Int) = some true := by decide +kernel
set_option maxHeartbeats 80000000 in
set_option maxRecDepth 100000 in
theorem dc_15_6 : ∀ c ∈ List.range 3, laws_FnExactDividingCuts.f 2500 15 0 ((c + 6 : Nat) : Int) = some true := by decide +kernel
set_option maxHeartbeats 80000000 in
set_option maxRecDepth 100000 in
theorem dc_15_9 : ∀ c ∈ List.range 3, laws_FnExactDividingCuts.f 2500 15 0 ((c + 9 : Nat) : Int) = some true := by decide +kernel
set_option maxHeartbeats 80000000 in
set_option maxRecDepth 100000 in
theorem dc_15_12 : ∀ c ∈ List.range 3, laws_FnExactDividingCuts.f 2500 15 0 ((c + 12 : Nat) : Int) = some true := by decide +kernel
set_option maxHeartbeats 80000000 in
set_option maxRecDepth 100000 in
theorem dc_15_15 : ∀ c ∈ List.range 3, laws_FnExactDividingCuts.f 2500 15 0 ((c + 15 : Nat) : Int) = some true := by decide +kernel
set_option maxHeartbeats 80000000 in
set_option maxRecDepth 100000 in
theorem dc_15_18 : ∀ c ∈ List.range 3, laws_FnExactDividingCuts.f 2500 15 0 ((c + 18 : Nat) : Int) = some true := by decide +kernel
theorem dc_15 : ∀ c ∈ List.range 21, laws_FnExactDividingCuts.f 2500 15 0 ((c : Nat) : Int) = some true := by
  intro c hc
  rw [List.mem_range] at hc
  by_cases h0 : 0 ≤ c ∧ c < 3
  · have h := dc_15_0 (c - 0) (by rw [List.mem_range]; omega)
    rwa [show c - 0 + 0 = c by omega] at h
  by_cases h3 : 3 ≤ c ∧ c < 6
  · have h := dc_15_3 (c - 3) (by rw [List.mem_range]; omega)
    rwa [show c - 3 + 3 = c by omega] at h
  by_cases h6 : 6 ≤ c ∧ c < 9
  · have h := dc_15_6 (c - 6) (by rw [List.mem_range]; omega)
    rwa [show c - 6 + 6 = c by omega] at h
  by_cases h9 : 9 ≤ c ∧ c < 12
  · have h := dc_15_9 (c - 9) (by rw [List.mem_range]; omega)
    rwa [show c - 9 + 9 = c by omega] at h
  by_cases h12 : 12 ≤ c ∧ c < 15
  · have h := dc_15_12 (c - 12) (by rw [List.mem_range]; omega)
    rwa [show c - 12 + 12 = c by omega] at h
  by_cases h15 : 15 ≤ c ∧ c < 18
  · have h := dc_15_15 (c - 15) (by rw [List.mem_range]; omega)
    rwa [show c - 15 + 15 = c by omega] at h
  by_cases h18 : 18 ≤ c ∧ c < 21
  · have h := dc_15_18 (c - 18) (by rw [List.mem_range]; omega)
    rwa [show c - 18 + 18 = c by omega] at h
  omega
end Go.Proofs.Ytaamfciheanedaa.Pure
