/- The document's list: where a spot stands. -/
import Derived.Test.YtainljbkejafcaaNRow
import Derived.Test.YtainljbkejafcaaNEq
namespace Go.Proofs.Ytainljbkejafcaa.N
open Go.RowKit
set_option linter.unusedVariables false
set_option linter.unusedSimpArgs false
theorem rbefore_at' (a b : Sp) (w : World) : Calls Try.prog 21 #[.agg #[.int .i64 a.br, .int .i64 a.vol, .int .i64 a.blk, .int .u64 a.num], .agg #[.int .i64 b.br, .int .i64 b.vol, .int .i64 b.blk, .int .u64 b.num]] w fun e w' => e = .returned (.bool (lt a b)) ∧ Below w.heap.size w w' := rbefore_at a b w
def RFindRel (W : World) (k : Sp) (l : List Sp) (i : Value) (wr : World) : Prop := ∃ n : Nat, i = .int .i64 n ∧ n ≤ l.length ∧ Below W.heap.size W wr ∧ (findL k l).1 = n + (findL k (l.drop n)).1 ∧ (findL k l).2 = (findL k (l.drop n)).2
theorem findL_stop {k x : Sp} (h : lt x k = false) : ordS x k ≥ 0 := by unfold lt at h; simp at h; omega
theorem findL_go {k x : Sp} (h : lt x k = true) : ¬ ordS x k ≥ 0 := by unfold lt at h; simp at h; omega
set_option maxHeartbeats 3200000 in
set_option maxRecDepth 100000 in
theorem rfind_at {w : World} {L ca : Nat} {A : Option Addr} {vv : Value} {ks : List Sp} (hp : w.heap[L]? = some (.cells #[.slice A ks.length ca, vv] 34 (0, 0))) (hs : SpotsAt w A ks) (k : Sp) (hk : ks.length ≤ 100000) :
    Calls Try.prog 24 #[.pointer (some ⟨L, 0, none⟩), .agg #[.int .i64 k.br, .int .i64 k.vol, .int .i64 k.blk, .int .u64 k.num]] w fun e w' => e = .returned (.tuple #[.int .i64 (findL k ks).1, .bool (findL k ks).2]) ∧ Below w.heap.size w w' := by
  have HRf := Lib.hid (fun x y W => rbefore_at' x y W)
  have HS := Lib.hid hs
  have lL := (Array.getElem?_eq_some_iff.1 hp).1
  clear hs
  go_enter Try.func24, Try.ntmps24
  go_wp2_with fail
  have hk1 := heap_alloc_new w (.cells #[.int .i64 k.br, .int .i64 k.vol, .int .i64 k.blk, .int .u64 k.num] 26)
  have hB : Below w.heap.size w (w.alloc (.cells #[.int .i64 k.br, .int .i64 k.vol, .int .i64 k.blk, .int .u64 k.num] 26)) := (Below.refl _ _).alloc (Nat.le_refl _) _
  have zk : w.heap.size < (w.alloc (.cells #[.int .i64 k.br, .int .i64 k.vol, .int .i64 k.blk, .int .u64 k.num] 26)).heap.size := by simp
  generalize w.alloc (.cells #[.int .i64 k.br, .int .i64 k.vol, .int .i64 k.blk, .int .u64 k.num] 26) = W at *
  have hp1 := (hB.block _ lL).trans hp
  have zL : L < W.heap.size := by omega
  have HB := Lib.hid hB
  have HS1 := Lib.hid (HS.out.below hB)
  clear hB hp HS
  generalize hpk : w.heap.size = pk at *
  go_loopw [6] (fun i wr => RFindRel W k ks i wr) (fun i _ => (ks.length - intOf i).toNat)
  case atStart => exact ⟨0, rfl, by omega, Below.refl _ _, by simp, by simp⟩
  case round =>
    obtain ⟨n, rfl, hn, hb, f1, f2⟩ := hrel
    have hz := hb.size
    have BB : Below pk w wr := HB.out.trans (hb.mono (by omega))
    have k1 := (hb.block pk zk).trans hk1
    have l1 := (hb.block L zL).trans hp1
    have k0 : wr.cell? ⟨pk, 0, none⟩ = some (.int .i64 k.br) := by simp only [World.cell?, k1]; rfl
    have k2 : wr.cell? ⟨pk, 1, none⟩ = some (.int .i64 k.vol) := by simp only [World.cell?, k1]; rfl
    have k3 : wr.cell? ⟨pk, 2, none⟩ = some (.int .i64 k.blk) := by simp only [World.cell?, k1]; rfl
    have k4 : wr.cell? ⟨pk, 3, none⟩ = some (.int .u64 k.num) := by simp only [World.cell?, k1]; rfl
    have d0 : wr.cell? ⟨L, 0, none⟩ = some (.slice A ks.length ca) := by simp only [World.cell?, l1]; rfl
    have qk : pk < wr.heap.size := by omega
    have qL : L < wr.heap.size := by omega
    by_cases cc : n < ks.length
    · obtain ⟨b, off, rfl, hlt, hcs⟩ := (HS1.out.below hb) (by omega)
      obtain ⟨s0, s1, s2, s3⟩ := hcs n cc
      have e1 : (0 : Int) ≤ (n : Int) := by omega
      have e2 : (n : Int) < (ks.length : Int) := by omega
      have hw1 : IntKind.i64.wrap ((n : Int) + 1) = (n : Int) + 1 := by rw [IntKind.wrap_i64]; omega
      have FD := Lib.hid (findL_drop k ks n cc)
      have HF := Lib.hid (And.intro f1 f2)
      clear hcs f1 f2 k1 l1
      generalize ks[n] = x at *
      cases hc : lt x k
      · have dd := findL_stop hc
        have F := FD.out
        rw [if_pos dd] at F
        have hq : Hid ((findL k ks).1 = n ∧ (findL k ks).2 = (ordS x k == 0)) := ⟨by rw [HF.out.1, F]; simp, by rw [HF.out.2, F]⟩
        clear F dd HF FD
        go_wp2_with fail
        go_region_held3 (fun w' => w'.cell? ⟨pk, 0, none⟩ = some (.int .i64 k.br) ∧ w'.cell? ⟨pk, 1, none⟩ = some (.int .i64 k.vol) ∧ w'.cell? ⟨pk, 2, none⟩ = some (.int .i64 k.blk) ∧ w'.cell? ⟨pk, 3, none⟩ = some (.int .u64 k.num) ∧ w'.cell? ⟨L, 0, none⟩ = some (.slice (some ⟨b, off, none⟩) ks.length ca) ∧ w'.cell? ⟨b, off + n * 4, none⟩ = some (.int .i64 x.br) ∧ w'.cell? ⟨b, off + n * 4 + 1, none⟩ = some (.int .i64 x.vol) ∧ w'.cell? ⟨b, off + n * 4 + 2, none⟩ = some (.int .i64 x.blk) ∧ w'.cell? ⟨b, off + n * 4 + 3, none⟩ = some (.int .u64 x.num)) (go_keep)
          (first
          | (go_at_call 21; refine (HRf.out _ _ _).mono ?_; rintro e w5 ⟨rfl, hb5⟩; rw [hc]; replace hb5 := bel_undrew hb5; obtain ⟨bc5, bf5⟩ := bcell hb5; have z5 := hb5.size))
        go_wp2_with fail
        have hE := Lib.hid (ordS_zero x k)
        have v0 := (bc5 pk 0 qk).trans k0
        have v2 := (bc5 pk 1 qk).trans k2
        have v3 := (bc5 pk 2 qk).trans k3
        have v4 := (bc5 pk 3 qk).trans k4
        have vd := (bc5 L 0 qL).trans d0
        have x0 := (bc5 b _ hlt).trans s0
        have x1 := (bc5 b _ hlt).trans s1
        have x2 := (bc5 b _ hlt).trans s2
        have x3 := (bc5 b _ hlt).trans s3
        clear k0 k2 k3 k4 d0 s0 s1 s2 s3 bc5 bf5
        have he := fun W => sp_eq x k W
        go_quiet (fail)
        go_wp2_with fail
        go_ret2
        have hee : (ordS x k == 0) = decide (x = k) := by rw [Bool.eq_iff_iff]; simp [hE.out]
        exact ⟨by rw [hq.out.1, hq.out.2, hee]; rfl, by rw [hpk]; exact (BB.trans (hb5.mono (by omega))).trans (bel_drewN _ _)⟩
      · have dd := findL_go hc
        have F := FD.out
        rw [if_neg dd] at F
        have hq : Hid ((findL k ks).1 = n + 1 + (findL k (ks.drop (n + 1))).1 ∧ (findL k ks).2 = (findL k (ks.drop (n + 1))).2) := ⟨by rw [HF.out.1, F]; simp only; omega, by rw [HF.out.2, F]⟩
        clear F dd HF FD
        go_wp2_with fail
        go_region_held3 (fun w' => w'.cell? ⟨pk, 0, none⟩ = some (.int .i64 k.br) ∧ w'.cell? ⟨pk, 1, none⟩ = some (.int .i64 k.vol) ∧ w'.cell? ⟨pk, 2, none⟩ = some (.int .i64 k.blk) ∧ w'.cell? ⟨pk, 3, none⟩ = some (.int .u64 k.num) ∧ w'.cell? ⟨L, 0, none⟩ = some (.slice (some ⟨b, off, none⟩) ks.length ca) ∧ w'.cell? ⟨b, off + n * 4, none⟩ = some (.int .i64 x.br) ∧ w'.cell? ⟨b, off + n * 4 + 1, none⟩ = some (.int .i64 x.vol) ∧ w'.cell? ⟨b, off + n * 4 + 2, none⟩ = some (.int .i64 x.blk) ∧ w'.cell? ⟨b, off + n * 4 + 3, none⟩ = some (.int .u64 x.num)) (go_keep)
          (first
          | (go_at_call 21; refine (HRf.out _ _ _).mono ?_; rintro e w5 ⟨rfl, hb5⟩; rw [hc]; replace hb5 := bel_undrew hb5; obtain ⟨bc5, bf5⟩ := bcell hb5; have z5 := hb5.size))
        go_wp2_with fail
        go_roundw
        case rel => exact ⟨n + 1, by simp, by omega, hb.trans (hb5.mono hz), hq.out.1, hq.out.2⟩
        case measure => simp [intOf]; omega
    · obtain rfl : n = ks.length := by omega
      rw [List.drop_length] at f1 f2
      have hq : Hid ((findL k ks).1 = ks.length ∧ (findL k ks).2 = false) := ⟨by rw [f1]; simp [findL], by rw [f2]; rfl⟩
      clear f1 f2
      have D : decide ((ks.length : Int) < (ks.length : Int)) = false := by simp
      go_wp2_with fail
      go_quiet (fail)
      go_wp2_with fail
      go_quiet (fail)
      go_wp2_with fail
      go_ret2
      exact ⟨by rw [hq.out.1, hq.out.2]; rfl, by rw [hpk]; exact (BB.trans (bel_drewN _ _)).trans (bel_drewN _ _)⟩
end Go.Proofs.Ytainljbkejafcaa.N
