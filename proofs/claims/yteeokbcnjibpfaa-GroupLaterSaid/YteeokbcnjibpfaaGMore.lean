/- The walks of Before, Barriers (with slices.Clone), Cut and Within. -/
import Derived.Test.YteeokbcnjibpfaaGUpto
import Derived.Test.YteeokbcnjibpfaaGNew
import Derived.Laws.ResultCell
namespace Go.Proofs.Yteeokbcnjibpfaa.G
open Go.RowKit Go.Proofs.YteeokbcnjibpfaaW.PrintMore Go.Proofs.YteeokbcnjibpfaaW.PrintWords
set_option linter.unusedVariables false
set_option linter.unusedSimpArgs false
section
variable {w : World} {B g gv V : Nat} {R : Nat → Value} {L : Nat → List Int} {last : Int}
set_option maxHeartbeats 800000 in
theorem before_at (h : Grp w B g gv V R L last) (m : Int) (hp : (L V).Pairwise (· < ·)) (hl : (L V).length ≤ 1000) :
    Calls Try.prog 15 #[.pointer (some ⟨g, 0, none⟩), .int .u64 m] w fun e w' => e = .returned (.tuple #[.int .u64 (lastUp m (L V)), .bool (decide (0 < cnt m (L V)))]) ∧ Below w.heap.size w w' := by
  obtain ⟨A, c, e, hc, hA⟩ := numsAt_own (h.row V (Nat.le_refl V))
  have hc1 := h.c1
  rw [e] at hc1
  have HX := Lib.hid (upto_at m A c (L V) w hp hl hA)
  clear h e hp hA
  go_enter Try.func15, Try.ntmps15
  go_wp2_with fail
  refine HX.out.mono ?_
  rintro e w' ⟨rfl, hb⟩
  go_wp2_with fail
  go_ret2
  exact ⟨rfl, hb⟩
theorem before_none (m : Int) (w : World) : Calls Try.prog 15 #[.pointer none, .int .u64 m] w fun e w' => e = .returned (.tuple #[.int .u64 0, .bool false]) ∧ w = w' := by
  go_enter Try.func15, Try.ntmps15
  go_wp2_with fail
  go_ret2
  exact ⟨rfl, rfl⟩
theorem barriers_none (w : World) : Calls Try.prog 18 #[.pointer none] w fun e w' => e = .returned nilS ∧ w = w' := by
  go_enter Try.func18, Try.ntmps18
  go_wp2_with fail
  go_ret
  exact ⟨rfl, rfl⟩
theorem cut_none (m : Int) (w : World) : Calls Try.prog 13 #[.pointer none, .int .u64 m] w fun e w' => e = .returned (.tuple #[.agg #[.int .u64 0, nilS], .bool false]) ∧ Below w.heap.size w w' := by
  go_enter Try.func13, Try.ntmps13
  go_wp2_with fail
  (try simp only [Exit.inBlock, Exit.then])
  refine bodyPost_ret (v := .tuple #[.agg #[.int .u64 0, (.slice none 0 0)], .bool false]) (by rw [results_cell_tmp rfl]; go_simp) rfl ?_
  exact ⟨rfl, (Below.refl _ _).alloc (Nat.le_refl _) _⟩
theorem cut_zero (w : World) : Calls Try.prog 13 #[.pointer (some ⟨g, 0, none⟩), .int .u64 0] w fun e w' => e = .returned (.tuple #[.agg #[.int .u64 0, nilS], .bool false]) ∧ Below w.heap.size w w' := by
  go_enter Try.func13, Try.ntmps13
  go_wp2_with fail
  (try simp only [Exit.inBlock, Exit.then])
  refine bodyPost_ret (v := .tuple #[.agg #[.int .u64 0, (.slice none 0 0)], .bool false]) (by rw [results_cell_tmp rfl]; go_simp) rfl ?_
  exact ⟨rfl, (Below.refl _ _).alloc (Nat.le_refl _) _⟩
end
def ClonePost (w : World) (l : List Int) (e : Ending) (w' : World) : Prop := ∃ v, e = .returned v ∧ w'.ownsRow w.heap.size 23 1 v l.length (u64s l) ∧ Below w.heap.size w w'
theorem empty_own (w : World) : (w.alloc (.cells #[] 23)).ownsRow w.heap.size 23 1 (.slice (some ⟨w.heap.size, 0, none⟩) 0 0) 0 [] :=
  ⟨rfl, .inr ⟨w.heap.size, 0, #[], rfl, Nat.le_refl _, heap_alloc_new w _, Nat.le_refl _, by simp [maxLen], rfl, rfl⟩⟩
set_option maxHeartbeats 1600000 in
theorem clone_at {B : Nat} (v : Value) (l : List Int) (w : World) (hl : l.length ≤ 1000) (hv : w.ownsRow B 23 1 v l.length (u64s l)) : Calls Try.prog 25 #[v] w (ClonePost w l) := by
  obtain ⟨i0, hi0, hz0, hz1, hz2⟩ := info_parts infoU
  have fm : 0 + l.length ≤ maxLen := by simp only [maxLen]; omega
  have fb : (0 + l.length) * 8 ≤ 140737488355328 := by omega
  have HV := Lib.hid hv
  rcases hv.2 with ⟨rfl, e⟩ | ⟨g, cap, cur, rfl, hg, hh, hle, _⟩
  · clear hv
    have he : ∀ W : World, (binOp .eql 29 (.slice none 0 0) (.slice none 0 0)).run Try.prog W = .ok (.bool true) W := fun _ => rfl
    go_enter Try.func25, Try.ntmps25
    go_wp2_with fail
    go_ret
    exact ⟨_, rfl, ⟨HV.out.1, .inl ⟨rfl, e⟩⟩, Below.refl _ _⟩
  · have hlt := (Array.getElem?_eq_some_iff.1 hh).1
    have HC : Hid (∀ j u, (u64s l)[j]? = some u → (w.alloc (.cells #[] 23)).cell? ((⟨g, 0, none⟩ : Addr).add j) = some u) := by
      intro j u hj
      have hjl : j < l.length := by
        have := (List.getElem?_eq_some_iff.1 hj).1
        simpa [u64s] using this
      have ea : (⟨g, 0, none⟩ : Addr).add j = ⟨g, j, none⟩ := by
        unfold Addr.add
        split
        · subst_vars; rfl
        · simp
      rw [ea, World.cell?_alloc_past _ _ _ hlt, HV.out.cellAt j (by omega), hj]
    clear hv hh
    have he : ∀ W : World, (binOp .eql 29 (.slice (some ⟨g, 0, none⟩) l.length cap) (.slice none 0 0)).run Try.prog W = .ok (.bool false) W := fun _ => rfl
    go_enter Try.func25, Try.ntmps25
    go_wp2_with (at_builtin; refine list_one rfl (.tmp 5) (.tmp 6) 29 rfl w.heap.size 23 i0 (.int .u64 0) 1 8 Try.underlying29 hi0 hz0 hz1 hz2 rfl (by decide) _ _ _ (by rfl) (empty_own w) ⟨g, 0, none⟩ l.length cap (u64s l) (by rfl) (by simp [u64s]) HC.out (by simp [u64s, Value.oneCell']) fm fb (by simp) ?_; intro v1 w1 hown1 hgr1 hat1)
    go_ret
    refine ⟨_, rfl, by simpa using hown1, ?_⟩
    exact ((Below.refl _ _).alloc (Nat.le_refl _) _).grown hgr1 (by simp) (fun k hk => by simp [Value.ownBlock] at hk; omega)
set_option maxHeartbeats 800000 in
theorem barriers_at {w : World} {B g gv V : Nat} {R : Nat → Value} {L : Nat → List Int} {last : Int} (h : Grp w B g gv V R L last) (hl : (L V).length ≤ 1000) : Calls Try.prog 18 #[.pointer (some ⟨g, 0, none⟩)] w (ClonePost w (L V)) := by
  have hc1 := h.c1
  have HX := Lib.hid (clone_at (R V) (L V) w hl (h.row V (Nat.le_refl V)))
  clear h
  go_enter Try.func18, Try.ntmps18
  go_wp2_with fail
  refine HX.out.mono ?_
  rintro e w' ⟨v', rfl, hb⟩
  go_wp2_with fail
  go_ret
  exact ⟨v', rfl, hb⟩
end Go.Proofs.Yteeokbcnjibpfaa.G
