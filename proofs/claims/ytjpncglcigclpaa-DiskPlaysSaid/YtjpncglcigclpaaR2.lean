/- The disk and the document's disk go side by side. -/
import Derived.Test.YtjpncglcigclpaaR1
import Derived.Test.YtjpncglcigclpaaD4
namespace Stk
open Go
set_option linter.unusedSimpArgs false
set_option linter.unusedVariables false
structure SR (d : Dk) (r : Rk) : Prop where
  ok : d.OK
  xb : AllB d.xs
  c : d.c = r.last ++ r.wait
  l : d.lasts = r.last.length
  dn : d.down = r.off
  fu : d.fuse = r.left
  dd : d.done = r.done
theorem SR.len {d : Dk} {r : Rk} (h : SR d r) : d.n = r.last.length + r.wait.length := by
  rw [← c_length h.ok, h.c]; simp
theorem SR.rok {d : Dk} {r : Rk} (h : SR d r) : r.OK := by
  have := h.len
  have := h.ok.big
  exact ⟨by omega, by omega, by rw [← h.fu]; exact h.ok.f0, by rw [← h.fu]; exact h.ok.fb⟩
/-- One changing call. -/
theorem sim_change {d : Dk} {r : Rk} (h : SR d r) (hu : d.down = false) {work : Dk → Dk} {rw_ : Rk → Rk} (hw : Works d work) (hxb : AllB (work d).xs)
    (hdone : ∀ f, (work { d with fuse := f }).done = d.done) (hxs : ∀ f, (work { d with fuse := f }).xs = (work d).xs)
    (hr : ∀ x : Rk, x.last = r.last → x.wait = r.wait → (rw_ x).off = x.off ∧ (rw_ x).left = x.left ∧ (rw_ x).done = x.done ∧ (work d).c = (rw_ x).last ++ (rw_ x).wait ∧ (work d).lasts = (rw_ x).last.length) :
    (d.change work).2 = r.burn.2.2 ∧ SR (d.change work).1 (if r.burn.2.1 then rw_ r.burn.1 else r.burn.1) := by
  have hok := (change3 h.ok hu hw).1
  unfold Dk.change at hok ⊢
  unfold Rk.burn
  have hfu := h.fu
  have e0 : ({ d with fuse := d.fuse } : Dk) = d := by cases d; rfl
  by_cases h0 : d.fuse = 0
  · rw [if_pos h0] at hok ⊢
    rw [if_pos (c := r.left = 0) (by omega)]
    obtain ⟨r1, r2, r3, r4, r5⟩ := hr r rfl rfl
    have w1 := hw.down d.fuse
    have w2 := hw.fuse d.fuse
    have w3 := hdone d.fuse
    exact ⟨rfl, hok, hxb, r4, r5, w1.trans (h.dn.trans r1.symm), w2.trans (h.fu.trans r2.symm), w3.trans (h.dd.trans r3.symm)⟩
  · rw [if_neg h0] at hok ⊢
    rw [if_neg (c := r.left = 0) (by omega)]
    by_cases h1 : d.fuse - 1 > 0
    · rw [if_pos h1] at hok ⊢
      rw [if_pos (c := r.left - 1 > 0) (by omega)]
      obtain ⟨r1, r2, r3, r4, r5⟩ := hr { r with left := r.left - 1 } rfl rfl
      have s := hw.same (d.fuse - 1)
      refine ⟨rfl, hok, by rw [hxs]; exact hxb, by rw [s.c]; exact r4, by rw [s.2.2]; exact r5, ?_, ?_, ?_⟩
      · show _ = (rw_ { r with left := r.left - 1 }).off
        rw [r1]; rw [← h.dn]; exact hw.down _
      · show _ = (rw_ { r with left := r.left - 1 }).left
        rw [r2, ← hfu]; exact hw.fuse _
      · show _ = (rw_ { r with left := r.left - 1 }).done
        rw [r3, ← h.dd]; exact hdone _
    · rw [if_neg h1] at hok ⊢
      rw [if_neg (c := r.left - 1 > 0) (by omega)]
      dsimp only
      have hdd' := h.dd
      by_cases hdd : d.done = true
      · rw [if_pos hdd] at hok ⊢
        rw [if_pos (c := r.done = true) (by rw [← hdd', hdd])]
        obtain ⟨r1, r2, r3, r4, r5⟩ := hr { r with left := r.left - 1, off := true } rfl rfl
        have s := hw.same (d.fuse - 1)
        refine ⟨rfl, hok, ?_, ?_, ?_, ?_, ?_, ?_⟩
        · show AllB (work { d with fuse := d.fuse - 1 }).xs
          rw [hxs]; exact hxb
        · exact (Dk.same.c (d := work { d with fuse := d.fuse - 1 }) s).trans r4
        · exact s.2.2.trans r5
        · exact r1.symm
        · rw [r2]; show (work { d with fuse := d.fuse - 1 }).fuse = r.left - 1
          rw [hw.fuse, hfu]
        · rw [r3]; show (work { d with fuse := d.fuse - 1 }).done = r.done
          rw [hdone, h.dd]
      · rw [if_neg hdd] at hok ⊢
        rw [if_neg (c := r.done = true) (by rw [← hdd']; exact hdd)]
        refine ⟨rfl, hok, h.xb, h.c, h.l, rfl, ?_, hdd'⟩
        show d.fuse - 1 = r.left - 1
        omega
theorem sim_append {d : Dk} {r : Rk} (h : SR d r) (ys : List Tr) (hy : AllB ys) : (d.append ys).2 = (r.append ys).2 ∧ SR (d.append ys).1 (r.append ys).1 := by
  have hl := h.len
  unfold Dk.append Rk.append
  cases hu : d.down with
  | true =>
    rw [ready_dn hu, if_neg (by decide), if_pos (by rw [← h.dn, hu])]
    exact ⟨rfl, h⟩
  | false =>
    rw [if_neg (c := r.off = true) (by rw [← h.dn, hu]; simp)]
    by_cases hs : ((d.n : Int) + ys.length) > 4194304
    · have e : d.ready ((d.n : Int) + ys.length) = 7 := by unfold Dk.ready; rw [if_neg (by simp [hu]), if_pos hs]
      rw [e, if_neg (by decide), if_pos (by omega)]
      exact ⟨rfl, h⟩
    · rw [ready_up hu (by omega), if_pos rfl, if_neg (by omega)]
      refine sim_change h hu (rw_ := fun x => { x with wait := x.wait ++ ys }) (works_put h.ok ys (by omega)) (AllB.append (h.xb.take _) hy) (fun _ => rfl) (fun _ => rfl) ?_
      rintro x e1 e2
      refine ⟨rfl, rfl, rfl, ?_, ?_⟩
      · rw [put_c, h.c, e1, e2, List.append_assoc]
      · show d.lasts = (x.last.length : Int); rw [e1]; exact h.l
theorem sim_sync {d : Dk} {r : Rk} (h : SR d r) : d.sync.2 = r.sync.2 ∧ SR d.sync.1 r.sync.1 := by
  have hl := h.len
  unfold Dk.sync Rk.sync
  cases hu : d.down with
  | true =>
    rw [ready_dn hu, if_neg (by decide), if_pos (by rw [← h.dn, hu])]
    exact ⟨rfl, h⟩
  | false =>
    rw [if_neg (c := r.off = true) (by rw [← h.dn, hu]; simp), ready_up hu (by decide), if_pos rfl]
    refine sim_change h hu (rw_ := fun x => { x with last := x.last ++ x.wait, wait := [] }) (works_syn h.ok) h.xb (fun _ => rfl) (fun _ => rfl) ?_
    rintro x e1 e2
    refine ⟨rfl, rfl, rfl, ?_, ?_⟩
    · rw [syn_c, h.c]; simp [e1, e2]
    · show (d.n : Int) = ((x.last ++ x.wait).length : Int)
      rw [e1, e2, hl]; simp
theorem sim_replace {d : Dk} {r : Rk} (h : SR d r) (ys : List Tr) (hy : AllB ys) : (d.replace ys).2 = (r.replace ys).2 ∧ SR (d.replace ys).1 (r.replace ys).1 := by
  unfold Dk.replace Rk.replace
  cases hu : d.down with
  | true =>
    rw [ready_dn hu, if_neg (by decide), if_pos (by rw [← h.dn, hu])]
    exact ⟨rfl, h⟩
  | false =>
    rw [if_neg (c := r.off = true) (by rw [← h.dn, hu]; simp)]
    by_cases hs : (ys.length : Int) > 4194304
    · have e : d.ready ys.length = 7 := by unfold Dk.ready; rw [if_neg (by simp [hu]), if_pos hs]
      rw [e, if_neg (by decide), if_pos hs]
      exact ⟨rfl, h⟩
    · rw [ready_up hu (by omega), if_pos rfl, if_neg hs]
      refine sim_change h hu (rw_ := fun x => { x with last := ys, wait := [] }) (works_set ys (by omega)) hy (fun _ => rfl) (fun _ => rfl) ?_
      rintro x e1 e2
      exact ⟨rfl, rfl, rfl, by rw [set_c]; simp, rfl⟩
theorem sim_fuse {d : Dk} {r : Rk} (h : SR d r) (n : Int) (hn : n ≤ 9223372036854775807) (b : Bool) : SR (d.fuseTo n b) (r.fuse n b) := by
  refine ⟨⟨h.ok.n, h.ok.big, h.ok.l0, h.ok.ln, ?_, ?_⟩, h.xb, h.c, h.l, h.dn, ?_, rfl⟩
  · show 0 ≤ max n 0; omega
  · show max n 0 ≤ _; omega
  · show max n 0 = if n < 0 then 0 else n
    split <;> omega
theorem sim_crash {d : Dk} {r : Rk} (h : SR d r) (k : Int) : (d.crash k).2 = r.crashN k ∧ SR (d.crash k).1 (r.crash k) := by
  have hl := h.len
  have hll := h.l
  have hle := h.ok.ln
  have e : (d.crash k).2 = max 0 (min k ((d.n : Int) - d.lasts)) := rfl
  have e1 : (d.crash k).2 = r.crashN k := by
    rw [e]; unfold Rk.crashN
    split <;> split <;> omega
  have hb : 0 ≤ r.crashN k ∧ r.crashN k ≤ (r.wait.length : Int) := by rw [← e1, e]; omega
  have en : (d.crash k).1.n = (d.lasts + (d.crash k).2).toNat := rfl
  have el : (d.crash k).1.lasts = d.lasts + (d.crash k).2 := rfl
  refine ⟨e1, crash_ok d h.ok k, h.xb, ?_, ?_, rfl, rfl, h.dd⟩
  · have ec : (d.crash k).1.c = d.c.take (d.crash k).1.n := by
      show d.xs.take (d.crash k).1.n = (d.xs.take d.n).take (d.crash k).1.n
      rw [List.take_take, Nat.min_eq_left (crash_n d h.ok k).2]
    rw [ec, en, e1, h.c, hll]
    show _ = (r.last ++ r.wait.take (r.crashN k).toNat) ++ []
    rw [List.append_nil, show ((r.last.length : Int) + r.crashN k).toNat = r.last.length + (r.crashN k).toNat by omega, List.take_length_add_append]
  · rw [el, e1, hll]
    show _ = ((r.last ++ r.wait.take (r.crashN k).toNat).length : Int)
    rw [List.length_append, List.length_take, Nat.min_eq_left (by omega)]
    omega
theorem sim_own {d : Dk} {r : Rk} (h : SR d r) : SR d.own r := by
  have hl := c_length h.ok
  have e : d.own.n = d.n := hl
  refine ⟨⟨Nat.le_refl _, by rw [e]; exact h.ok.big, h.ok.l0, by rw [e]; exact h.ok.ln, h.ok.f0, h.ok.fb⟩, h.xb.take _, ?_, h.l, h.dn, h.fu, h.dd⟩
  rw [← h.c]
  show List.take (d.xs.take d.n).length (d.xs.take d.n) = d.xs.take d.n
  rw [List.take_length]
/-- What an append that told OK has left. -/
theorem append_tail {d : Dk} {r : Rk} (h : SR d r) (ys : List Tr) (h0 : (d.append ys).2 = 0) : (d.append ys).1.c = d.c ++ ys := by
  unfold Dk.append at h0 ⊢
  cases hu : d.down with
  | true => rw [ready_dn hu, if_neg (by decide)] at h0; cases h0
  | false =>
    by_cases hs : ((d.n : Int) + ys.length) > 4194304
    · have e : d.ready ((d.n : Int) + ys.length) = 7 := by unfold Dk.ready; rw [if_neg (by simp [hu]), if_pos hs]
      rw [e, if_neg (by decide)] at h0; cases h0
    · rw [ready_up hu (by omega), if_pos rfl] at h0 ⊢
      rcases (change3 h.ok hu (works_put h.ok ys (by omega))).2 with ⟨_, _, c⟩ | ⟨c, _⟩
      · rw [c.c, put_c]
      · rw [c] at h0; cases h0
end Stk
