import Derived.Test.YtckhkfchgcdajaaGreatDoorYJxBa
namespace Go.Proofs.YtckhkfchgcdajaaGreatDoor
open Go.Fx Go.RowKit
theorem lookz1 {w : World} {kb : Nat} (c : w.cell? ⟨kb, 1, none⟩ = some (.slice none 0 0)) : Calls Tryz.prog 133 #[.pointer (some ⟨kb, 0, none⟩)] w fun e w' => e = .returned (.bool true) ∧ w' = w := by
  go_enter Tryz.func133, Tryz.ntmps133
  go_wp2_with fail
  refine wp_loop_rounds 1 ?_
  rw [rounds_succ]
  go_wp2_with fail
  exact bodyPost_ret (v := .bool true) (by simp [results, Tryz.results133, go_sem]) rfl ⟨rfl, rfl⟩
theorem lookz2 {w : World} {kb : Nat} (c : w.cell? ⟨kb, 2, none⟩ = some (.slice none 0 0)) : Calls Tryz.prog 134 #[.pointer (some ⟨kb, 0, none⟩)] w fun e w' => e = .returned (.bool true) ∧ w' = w := by
  go_enter Tryz.func134, Tryz.ntmps134
  go_wp2_with fail
  refine wp_loop_rounds 1 ?_
  rw [rounds_succ]
  go_wp2_with fail
  exact bodyPost_ret (v := .bool true) (by simp [results, Tryz.results134, go_sem]) rfl ⟨rfl, rfl⟩
theorem lookz3 {w : World} {kb : Nat} (c : w.cell? ⟨kb, 3, none⟩ = some (.slice none 0 0)) : Calls Tryz.prog 135 #[.pointer (some ⟨kb, 0, none⟩)] w fun e w' => e = .returned (.bool true) ∧ w' = w := by
  go_enter Tryz.func135, Tryz.ntmps135
  go_wp2_with fail
  refine wp_loop_rounds 1 ?_
  rw [rounds_succ]
  go_wp2_with fail
  exact bodyPost_ret (v := .bool true) (by simp [results, Tryz.results135, go_sem]) rfl ⟨rfl, rfl⟩
theorem lookz4 {w : World} {kb : Nat} (c : w.cell? ⟨kb, 4, none⟩ = some (.slice none 0 0)) : Calls Tryz.prog 136 #[.pointer (some ⟨kb, 0, none⟩)] w fun e w' => e = .returned (.bool true) ∧ w' = w := by
  go_enter Tryz.func136, Tryz.ntmps136
  go_wp2_with fail
  refine wp_loop_rounds 1 ?_
  rw [rounds_succ]
  go_wp2_with fail
  exact bodyPost_ret (v := .bool true) (by simp [results, Tryz.results136, go_sem]) rfl ⟨rfl, rfl⟩
theorem lookz5 {w : World} {kb : Nat} (c : w.cell? ⟨kb, 5, none⟩ = some (.slice none 0 0)) : Calls Tryz.prog 137 #[.pointer (some ⟨kb, 0, none⟩)] w fun e w' => e = .returned (.bool true) ∧ w' = w := by
  go_enter Tryz.func137, Tryz.ntmps137
  go_wp2_with fail
  refine wp_loop_rounds 1 ?_
  rw [rounds_succ]
  go_wp2_with fail
  exact bodyPost_ret (v := .bool true) (by simp [results, Tryz.results137, go_sem]) rfl ⟨rfl, rfl⟩
theorem lookz6 {w : World} {kb : Nat} (c : w.cell? ⟨kb, 6, none⟩ = some (.slice none 0 0)) : Calls Tryz.prog 138 #[.pointer (some ⟨kb, 0, none⟩)] w fun e w' => e = .returned (.bool true) ∧ w' = w := by
  go_enter Tryz.func138, Tryz.ntmps138
  go_wp2_with fail
  refine wp_loop_rounds 1 ?_
  rw [rounds_succ]
  go_wp2_with fail
  exact bodyPost_ret (v := .bool true) (by simp [results, Tryz.results138, go_sem]) rfl ⟨rfl, rfl⟩
theorem lookz7 {w : World} {kb : Nat} (c : w.cell? ⟨kb, 7, none⟩ = some (.slice none 0 0)) : Calls Tryz.prog 139 #[.pointer (some ⟨kb, 0, none⟩)] w fun e w' => e = .returned (.bool true) ∧ w' = w := by
  go_enter Tryz.func139, Tryz.ntmps139
  go_wp2_with fail
  refine wp_loop_rounds 1 ?_
  rw [rounds_succ]
  go_wp2_with fail
  exact bodyPost_ret (v := .bool true) (by simp [results, Tryz.results139, go_sem]) rfl ⟨rfl, rfl⟩
theorem lookz8 {w : World} {kb : Nat} (c : w.cell? ⟨kb, 8, none⟩ = some (.slice none 0 0)) : Calls Tryz.prog 140 #[.pointer (some ⟨kb, 0, none⟩)] w fun e w' => e = .returned (.bool true) ∧ w' = w := by
  go_enter Tryz.func140, Tryz.ntmps140
  go_wp2_with fail
  refine wp_loop_rounds 1 ?_
  rw [rounds_succ]
  go_wp2_with fail
  exact bodyPost_ret (v := .bool true) (by simp [results, Tryz.results140, go_sem]) rfl ⟨rfl, rfl⟩
theorem lookz9 {w : World} {kb : Nat} (c : w.cell? ⟨kb, 9, none⟩ = some (.slice none 0 0)) : Calls Tryz.prog 141 #[.pointer (some ⟨kb, 0, none⟩)] w fun e w' => e = .returned (.bool true) ∧ w' = w := by
  go_enter Tryz.func141, Tryz.ntmps141
  go_wp2_with fail
  refine wp_loop_rounds 1 ?_
  rw [rounds_succ]
  go_wp2_with fail
  exact bodyPost_ret (v := .bool true) (by simp [results, Tryz.results141, go_sem]) rfl ⟨rfl, rfl⟩
theorem lookz10 {w : World} {kb : Nat} (c : w.cell? ⟨kb, 10, none⟩ = some (.slice none 0 0)) : Calls Tryz.prog 142 #[.pointer (some ⟨kb, 0, none⟩)] w fun e w' => e = .returned (.bool true) ∧ w' = w := by
  go_enter Tryz.func142, Tryz.ntmps142
  go_wp2_with fail
  refine wp_loop_rounds 1 ?_
  rw [rounds_succ]
  go_wp2_with fail
  exact bodyPost_ret (v := .bool true) (by simp [results, Tryz.results142, go_sem]) rfl ⟨rfl, rfl⟩
theorem lookz11 {w : World} {kb : Nat} (c : w.cell? ⟨kb, 11, none⟩ = some (.slice none 0 0)) : Calls Tryz.prog 143 #[.pointer (some ⟨kb, 0, none⟩)] w fun e w' => e = .returned (.bool true) ∧ w' = w := by
  go_enter Tryz.func143, Tryz.ntmps143
  go_wp2_with fail
  refine wp_loop_rounds 1 ?_
  rw [rounds_succ]
  go_wp2_with fail
  exact bodyPost_ret (v := .bool true) (by simp [results, Tryz.results143, go_sem]) rfl ⟨rfl, rfl⟩
theorem lookz12 {w : World} {kb : Nat} (c : w.cell? ⟨kb, 12, none⟩ = some (.slice none 0 0)) : Calls Tryz.prog 144 #[.pointer (some ⟨kb, 0, none⟩)] w fun e w' => e = .returned (.bool true) ∧ w' = w := by
  go_enter Tryz.func144, Tryz.ntmps144
  go_wp2_with fail
  refine wp_loop_rounds 1 ?_
  rw [rounds_succ]
  go_wp2_with fail
  exact bodyPost_ret (v := .bool true) (by simp [results, Tryz.results144, go_sem]) rfl ⟨rfl, rfl⟩
theorem lookz13 {w : World} {kb : Nat} (c : w.cell? ⟨kb, 13, none⟩ = some (.slice none 0 0)) : Calls Tryz.prog 145 #[.pointer (some ⟨kb, 0, none⟩)] w fun e w' => e = .returned (.bool true) ∧ w' = w := by
  go_enter Tryz.func145, Tryz.ntmps145
  go_wp2_with fail
  refine wp_loop_rounds 1 ?_
  rw [rounds_succ]
  go_wp2_with fail
  exact bodyPost_ret (v := .bool true) (by simp [results, Tryz.results145, go_sem]) rfl ⟨rfl, rfl⟩
theorem lookz15 {w : World} {kb : Nat} (c : w.cell? ⟨kb, 15, none⟩ = some (.slice none 0 0)) : Calls Tryz.prog 147 #[.pointer (some ⟨kb, 0, none⟩)] w fun e w' => e = .returned (.bool true) ∧ w' = w := by
  go_enter Tryz.func147, Tryz.ntmps147
  go_wp2_with fail
  refine wp_loop_rounds 1 ?_
  rw [rounds_succ]
  go_wp2_with fail
  exact bodyPost_ret (v := .bool true) (by simp [results, Tryz.results147, go_sem]) rfl ⟨rfl, rfl⟩
theorem lookz16 {w : World} {kb : Nat} (c : w.cell? ⟨kb, 16, none⟩ = some (.slice none 0 0)) : Calls Tryz.prog 148 #[.pointer (some ⟨kb, 0, none⟩)] w fun e w' => e = .returned (.bool true) ∧ w' = w := by
  go_enter Tryz.func148, Tryz.ntmps148
  go_wp2_with fail
  refine wp_loop_rounds 1 ?_
  rw [rounds_succ]
  go_wp2_with fail
  exact bodyPost_ret (v := .bool true) (by simp [results, Tryz.results148, go_sem]) rfl ⟨rfl, rfl⟩
theorem lookz17 {w : World} {kb : Nat} (c : w.cell? ⟨kb, 17, none⟩ = some (.slice none 0 0)) : Calls Tryz.prog 149 #[.pointer (some ⟨kb, 0, none⟩)] w fun e w' => e = .returned (.bool true) ∧ w' = w := by
  go_enter Tryz.func149, Tryz.ntmps149
  go_wp2_with fail
  refine wp_loop_rounds 1 ?_
  rw [rounds_succ]
  go_wp2_with fail
  exact bodyPost_ret (v := .bool true) (by simp [results, Tryz.results149, go_sem]) rfl ⟨rfl, rfl⟩
theorem lookz18 {w : World} {kb : Nat} (c : w.cell? ⟨kb, 18, none⟩ = some (.slice none 0 0)) : Calls Tryz.prog 150 #[.pointer (some ⟨kb, 0, none⟩)] w fun e w' => e = .returned (.bool true) ∧ w' = w := by
  go_enter Tryz.func150, Tryz.ntmps150
  go_wp2_with fail
  refine wp_loop_rounds 1 ?_
  rw [rounds_succ]
  go_wp2_with fail
  exact bodyPost_ret (v := .bool true) (by simp [results, Tryz.results150, go_sem]) rfl ⟨rfl, rfl⟩
theorem lookz19 {w : World} {kb : Nat} (c : w.cell? ⟨kb, 19, none⟩ = some (.slice none 0 0)) : Calls Tryz.prog 151 #[.pointer (some ⟨kb, 0, none⟩)] w fun e w' => e = .returned (.bool true) ∧ w' = w := by
  go_enter Tryz.func151, Tryz.ntmps151
  go_wp2_with fail
  refine wp_loop_rounds 1 ?_
  rw [rounds_succ]
  go_wp2_with fail
  exact bodyPost_ret (v := .bool true) (by simp [results, Tryz.results151, go_sem]) rfl ⟨rfl, rfl⟩
theorem lookz20 {w : World} {kb : Nat} (c : w.cell? ⟨kb, 20, none⟩ = some (.slice none 0 0)) : Calls Tryz.prog 152 #[.pointer (some ⟨kb, 0, none⟩)] w fun e w' => e = .returned (.bool true) ∧ w' = w := by
  go_enter Tryz.func152, Tryz.ntmps152
  go_wp2_with fail
  refine wp_loop_rounds 1 ?_
  rw [rounds_succ]
  go_wp2_with fail
  exact bodyPost_ret (v := .bool true) (by simp [results, Tryz.results152, go_sem]) rfl ⟨rfl, rfl⟩
theorem lookz21 {w : World} {kb : Nat} (c : w.cell? ⟨kb, 21, none⟩ = some (.slice none 0 0)) : Calls Tryz.prog 153 #[.pointer (some ⟨kb, 0, none⟩)] w fun e w' => e = .returned (.bool true) ∧ w' = w := by
  go_enter Tryz.func153, Tryz.ntmps153
  go_wp2_with fail
  refine wp_loop_rounds 1 ?_
  rw [rounds_succ]
  go_wp2_with fail
  exact bodyPost_ret (v := .bool true) (by simp [results, Tryz.results153, go_sem]) rfl ⟨rfl, rfl⟩
theorem lookz23 {w : World} {kb : Nat} (c : w.cell? ⟨kb, 23, none⟩ = some (.slice none 0 0)) : Calls Tryz.prog 155 #[.pointer (some ⟨kb, 0, none⟩)] w fun e w' => e = .returned (.bool true) ∧ w' = w := by
  go_enter Tryz.func155, Tryz.ntmps155
  go_wp2_with fail
  refine wp_loop_rounds 1 ?_
  rw [rounds_succ]
  go_wp2_with fail
  exact bodyPost_ret (v := .bool true) (by simp [results, Tryz.results155, go_sem]) rfl ⟨rfl, rfl⟩
theorem lookz24 {w : World} {kb : Nat} (c : w.cell? ⟨kb, 24, none⟩ = some (.slice none 0 0)) : Calls Tryz.prog 156 #[.pointer (some ⟨kb, 0, none⟩)] w fun e w' => e = .returned (.bool true) ∧ w' = w := by
  go_enter Tryz.func156, Tryz.ntmps156
  go_wp2_with fail
  refine wp_loop_rounds 1 ?_
  rw [rounds_succ]
  go_wp2_with fail
  exact bodyPost_ret (v := .bool true) (by simp [results, Tryz.results156, go_sem]) rfl ⟨rfl, rfl⟩
theorem lookz25 {w : World} {kb : Nat} (c : w.cell? ⟨kb, 25, none⟩ = some (.slice none 0 0)) : Calls Tryz.prog 157 #[.pointer (some ⟨kb, 0, none⟩)] w fun e w' => e = .returned (.bool true) ∧ w' = w := by
  go_enter Tryz.func157, Tryz.ntmps157
  go_wp2_with fail
  refine wp_loop_rounds 1 ?_
  rw [rounds_succ]
  go_wp2_with fail
  exact bodyPost_ret (v := .bool true) (by simp [results, Tryz.results157, go_sem]) rfl ⟨rfl, rfl⟩
theorem lookz26 {w : World} {kb : Nat} (c : w.cell? ⟨kb, 26, none⟩ = some (.slice none 0 0)) : Calls Tryz.prog 158 #[.pointer (some ⟨kb, 0, none⟩)] w fun e w' => e = .returned (.bool true) ∧ w' = w := by
  go_enter Tryz.func158, Tryz.ntmps158
  go_wp2_with fail
  refine wp_loop_rounds 1 ?_
  rw [rounds_succ]
  go_wp2_with fail
  exact bodyPost_ret (v := .bool true) (by simp [results, Tryz.results158, go_sem]) rfl ⟨rfl, rfl⟩
theorem lookz27 {w : World} {kb : Nat} (c : w.cell? ⟨kb, 27, none⟩ = some (.slice none 0 0)) : Calls Tryz.prog 159 #[.pointer (some ⟨kb, 0, none⟩)] w fun e w' => e = .returned (.bool true) ∧ w' = w := by
  go_enter Tryz.func159, Tryz.ntmps159
  go_wp2_with fail
  refine wp_loop_rounds 1 ?_
  rw [rounds_succ]
  go_wp2_with fail
  exact bodyPost_ret (v := .bool true) (by simp [results, Tryz.results159, go_sem]) rfl ⟨rfl, rfl⟩
theorem lookz28 {w : World} {kb : Nat} (c : w.cell? ⟨kb, 28, none⟩ = some (.slice none 0 0)) : Calls Tryz.prog 160 #[.pointer (some ⟨kb, 0, none⟩)] w fun e w' => e = .returned (.bool true) ∧ w' = w := by
  go_enter Tryz.func160, Tryz.ntmps160
  go_wp2_with fail
  refine wp_loop_rounds 1 ?_
  rw [rounds_succ]
  go_wp2_with fail
  exact bodyPost_ret (v := .bool true) (by simp [results, Tryz.results160, go_sem]) rfl ⟨rfl, rfl⟩
theorem lookz29 {w : World} {kb : Nat} (c : w.cell? ⟨kb, 29, none⟩ = some (.slice none 0 0)) : Calls Tryz.prog 161 #[.pointer (some ⟨kb, 0, none⟩)] w fun e w' => e = .returned (.bool true) ∧ w' = w := by
  go_enter Tryz.func161, Tryz.ntmps161
  go_wp2_with fail
  refine wp_loop_rounds 1 ?_
  rw [rounds_succ]
  go_wp2_with fail
  exact bodyPost_ret (v := .bool true) (by simp [results, Tryz.results161, go_sem]) rfl ⟨rfl, rfl⟩
theorem lookz30 {w : World} {kb : Nat} (c : w.cell? ⟨kb, 30, none⟩ = some (.slice none 0 0)) : Calls Tryz.prog 162 #[.pointer (some ⟨kb, 0, none⟩)] w fun e w' => e = .returned (.bool true) ∧ w' = w := by
  go_enter Tryz.func162, Tryz.ntmps162
  go_wp2_with fail
  refine wp_loop_rounds 1 ?_
  rw [rounds_succ]
  go_wp2_with fail
  exact bodyPost_ret (v := .bool true) (by simp [results, Tryz.results162, go_sem]) rfl ⟨rfl, rfl⟩
theorem lookz31 {w : World} {kb : Nat} (c : w.cell? ⟨kb, 31, none⟩ = some (.slice none 0 0)) : Calls Tryz.prog 163 #[.pointer (some ⟨kb, 0, none⟩)] w fun e w' => e = .returned (.bool true) ∧ w' = w := by
  go_enter Tryz.func163, Tryz.ntmps163
  go_wp2_with fail
  refine wp_loop_rounds 1 ?_
  rw [rounds_succ]
  go_wp2_with fail
  exact bodyPost_ret (v := .bool true) (by simp [results, Tryz.results163, go_sem]) rfl ⟨rfl, rfl⟩
end Go.Proofs.YtckhkfchgcdajaaGreatDoor
