/- The walk of group's New. -/
import Derived.Test.YteeokbcnjibpfaaGWalks
import Derived.Test.YteeokbcnjibpfaaWWords
namespace Go.Proofs.Yteeokbcnjibpfaa.G
open Go.RowKit Go.Proofs.YteeokbcnjibpfaaW.PrintMore Go.Proofs.YteeokbcnjibpfaaW.PrintWords
attribute [local go_sem] max2_int min2_int max_two min_two
set_option linter.unusedVariables false
set_option linter.unusedSimpArgs false
/-- How many volumes there are. -/
def volsOf (v : Int) : Nat := if v < 0 then 0 else if v < 8 then v.toNat else 8
theorem volsOf_le (v : Int) : volsOf v ≤ 8 := by unfold volsOf; split <;> (try split) <;> omega
theorem infoS : (Try.prog.info? 29).map (fun i => (i.zero, i.size, i.bytes)) = some (some (.slice none 0 0), 1, 24) := by kernel_rfl
def nilS : Value := .slice none 0 0
theorem made_nil (n : Nat) : madeCells #[Value.slice none 0 0] n = ((List.range n).map fun _ => nilS).toArray := by
  apply Array.ext
  · simp [madeCells]
  · intro i h1 h2
    simp [madeCells, nilS, Nat.mod_one]
theorem grp_new (w : World) (n : Nat) (o : Obj) (ho : o = .cells #[.slice (some ⟨w.heap.size, 0, none⟩) n n, nilS, .int .u64 0] 57 (0, 0)) :
    Grp ((w.alloc (.cells (madeCells #[Value.slice none 0 0] n) 29)).alloc o) w.heap.size (w.heap.size + 1) w.heap.size n (fun _ => nilS) (fun _ => []) 0 := by
  subst ho
  refine ⟨by omega, by omega, by omega, ?_, ?_, fun i hi => ⟨rfl, .inl ⟨rfl, rfl⟩⟩, fun i j k _ _ _ h => by simp [nilS, Value.ownBlock] at h, fun i _ h => by simp [nilS, Value.ownBlock] at h, fun i _ h => by simp [nilS, Value.ownBlock] at h⟩
  · have := heap_alloc_new (w.alloc (.cells (madeCells #[Value.slice none 0 0] n) 29)) (.cells #[.slice (some ⟨w.heap.size, 0, none⟩) n n, nilS, .int .u64 0] 57 (0, 0))
    simpa using this
  · rw [Below.heap_alloc _ _ _ (by simp), heap_alloc_new, made_nil]
def NewPost (w : World) (n : Nat) (e : Ending) (w' : World) : Prop := ∃ g gv, e = .returned (.pointer (some ⟨g, 0, none⟩)) ∧ Grp w' w.heap.size g gv n (fun _ => nilS) (fun _ => []) 0 ∧ Below w.heap.size w w'
set_option maxHeartbeats 1600000 in
theorem new_at (v : Int) (n : Nat) (w : World) (hn : volsOf v = n) (hv : -9223372036854775808 ≤ v) (hv' : v ≤ 9223372036854775807) : Calls Try.prog 19 #[.int .i64 v] w (NewPost w n) := by
  have hn8 := volsOf_le v
  rw [hn] at hn8
  have hmk := print_make_of (P := Try.prog) 55 29 (.slice none 0 0) 24 Try.underlying55 infoS rfl (by decide) n (by omega)
  have hm : Hid ((if (if v < 0 then 0 else v) < 8 then (if v < 0 then 0 else v) else 8) = (n : Int)) := by
    show _ = _
    unfold volsOf at hn
    by_cases c : v < 0
    · rw [if_pos c] at hn; simp [c]; omega
    · rw [if_neg c] at hn
      by_cases c2 : v < 8
      · rw [if_pos c2] at hn; simp [c, c2]; omega
      · rw [if_neg c2] at hn; simp [c, c2]; omega
  clear hn
  by_cases c : v < 0
  · have e : n = 0 := by have := hm.out; simp [c] at this; omega
    subst e
    have hmk0 : ∀ W : World, (Instr.makeSlice 55 (.int .i64 0) (.int .i64 0)).run Try.prog W = .ok (.slice (some ⟨W.heap.size, 0, none⟩) 0 0) (W.alloc (.cells (madeCells #[Value.slice none 0 0] 0) 29)) := hmk
    clear hmk hm
    go_enter Try.func19, Try.ntmps19
    go_wp2
    go_ret
    exact ⟨_, _, rfl, grp_new w 0 _ rfl, ((Below.refl _ _).alloc (Nat.le_refl _) _).alloc (by simp) _⟩
  · by_cases c2 : v ≤ 8
    · have e : v = (n : Int) := by have := hm.out; simp [c] at this; split at this <;> omega
      subst e
      clear hm c
      go_enter Try.func19, Try.ntmps19
      go_wp2
      go_ret
      exact ⟨_, _, rfl, grp_new w n _ rfl, ((Below.refl _ _).alloc (Nat.le_refl _) _).alloc (by simp) _⟩
    · have e : n = 8 := by have := hm.out; simp [c] at this; split at this <;> omega
      subst e
      have hmk0 : ∀ W : World, (Instr.makeSlice 55 (.int .i64 8) (.int .i64 8)).run Try.prog W = .ok (.slice (some ⟨W.heap.size, 0, none⟩) 8 8) (W.alloc (.cells (madeCells #[Value.slice none 0 0] 8) 29)) := hmk
      clear hmk hm
      go_enter Try.func19, Try.ntmps19
      go_wp2
      go_ret
      exact ⟨_, _, rfl, grp_new w 8 _ rfl, ((Below.refl _ _).alloc (Nat.le_refl _) _).alloc (by simp) _⟩
end Go.Proofs.Yteeokbcnjibpfaa.G
