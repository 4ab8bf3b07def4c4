/- What a log keeps, in plain terms. -/
import Derived.Test.YtmcdljgpalejaaaV1
namespace Stk
open Go
set_option maxRecDepth 100000
set_option linter.unusedSimpArgs false
set_option linter.unusedVariables false
set_option maxHeartbeats 4000000
structure KI (w : Lg) (S A O : List (List Tr)) (mb : Bool) : Prop where
  ok : w.d.OK
  ab : AllB w.d.xs
  rS : AllR S
  rA : AllR A
  rO : AllR O
  rR : AllR w.R
  rr : 4 * (w.R.length : Int) ≤ w.size
  sz : w.size ≤ 4194304
  al : A.length ≤ 8388608
  sl : S.length ≤ 8388608
  ol : O.length ≤ 8388608
  up : w.d.down = false → w.over = false ∧ w.size = w.d.n ∧ w.d.cont = formsL A ∧ S <+: A ∧ ((formsL S).length : Int) ≤ w.d.lasts
  dn : w.d.down = true → (∃ P, w.d.cont = formsL P ∧ P <+: A ∧ S <+: P ∧ ((formsL S).length : Int) ≤ w.d.lasts) ∨ (mb = true ∧ w.d.cont = formsL O ∧ w.d.lasts = w.d.n)
theorem chg (d : Dk) (h0 : 0 ≤ d.fuse) (work : Dk → Dk) : ∃ fz, 0 ≤ fz ∧ fz ≤ d.fuse ∧ (d.change work = (work { d with fuse := fz }, 0) ∨ d.change work = ({ work { d with fuse := fz } with down := true }, 9) ∨ d.change work = ({ d with fuse := fz, down := true }, 9)) := by
  unfold Dk.change
  by_cases h : d.fuse = 0
  · exact ⟨d.fuse, h0, Int.le_refl _, .inl (by rw [if_pos h])⟩
  · refine ⟨d.fuse - 1, by omega, by omega, ?_⟩
    rw [if_neg h]
    by_cases h2 : d.fuse - 1 > 0
    · exact .inl (by rw [if_pos h2])
    · rw [if_neg h2]
      by_cases h3 : d.done = true
      · exact .inr (.inl (by rw [if_pos h3]))
      · exact .inr (.inr (by rw [if_neg h3]))
theorem fuse_ok {d : Dk} (h : d.OK) {fz : Int} (h1 : 0 ≤ fz) (h2 : fz ≤ d.fuse) (dn : Bool) : Dk.OK { d with fuse := fz, down := dn } := ⟨h.n, h.big, h.l0, h.ln, h1, Int.le_trans h2 h.fb⟩
theorem cont_len {d : Dk} (h : d.OK) : d.cont.length = d.n := by
  have := h.n
  rw [List.length_take]; omega
theorem KI.up' {w : Lg} {S A O : List (List Tr)} {mb : Bool} (h : KI w S A O mb) (hd : w.d.down = false) : (formsL A).length = w.d.n ∧ w.chk = w ∧ 4 * A.length ≤ w.d.n := by
  obtain ⟨h1, h2, h3, h4, h5⟩ := h.up hd
  have e1 := cont_len h.ok
  rw [h3] at e1
  have e2 := formsL_len A
  refine ⟨e1, ?_, by omega⟩
  obtain ⟨d, R, size, over⟩ := w
  simp only [Lg.chk, Lg.mk.injEq, true_and]
  simp at h1 h2
  simp [h1, h2]
theorem AllR.snoc {R : List (List Tr)} (h : AllR R) {xs : List Tr} (hx : AllB xs) (hl : xs.length ≤ 1048576) : AllR (R ++ [xs]) := fun y hy => by
  rcases List.mem_append.1 hy with hy | hy
  · exact h y hy
  · rw [List.mem_singleton] at hy; subst hy; exact ⟨hx, hl⟩
theorem allR_formsB : ∀ {R : List (List Tr)}, AllR R → AllB (formsL R)
  | [], _ => AllB.nil
  | x :: R, h => by
    rw [formsL_cons]
    exact (formB_b (h x (by simp)).1 (h x (by simp)).2).append (allR_formsB fun y hy => h y (by simp [hy]))
theorem rdy_up {w : Lg} (h : w.chk = w) (ho : w.over = false) : w.rdy false = (w, 0) := by
  unfold Lg.rdy
  rw [if_neg (by simp), h, ho]; rfl
theorem rdy_down {w : Lg} : (w.rdy false).1 = w.chk := rfl
theorem KI.chk {w : Lg} {S A O : List (List Tr)} {mb : Bool} (h : KI w S A O mb) (o : Bool) (hd : w.d.down = true) : KI { w with over := o } S A O mb :=
  ⟨h.ok, h.ab, h.rS, h.rA, h.rO, h.rR, h.rr, h.sz, h.al, h.sl, h.ol, fun h2 => (by rw [hd] at h2; cases h2), h.dn⟩
theorem app_down {d : Dk} (h : d.down = true) (ys : List Tr) : d.append ys = (d, 9) := by unfold Dk.append Dk.ready; simp [h]
theorem syn_down {d : Dk} (h : d.down = true) : d.sync = (d, 9) := by unfold Dk.sync Dk.ready; simp [h]
theorem rep_down {d : Dk} (h : d.down = true) (ys : List Tr) : d.replace ys = (d, 9) := by unfold Dk.replace Dk.ready; simp [h]
theorem KI.apd {w : Lg} {S A O : List (List Tr)} {mb : Bool} (h : KI w S A O mb) {xs : List Tr} (hx : AllB xs) (hl : xs.length ≤ 2000) :
    ((w.apd xs).2 = 0 ∧ w.d.down = false ∧ (w.apd xs).1.d.down = false ∧ KI (w.apd xs).1 S (A ++ [xs]) O mb) ∨
    ((w.apd xs).2 = 9 ∧ w.d.down = false ∧ (w.apd xs).1.d.down = true ∧ KI (w.apd xs).1 S (A ++ [xs]) O mb) ∨
    ((w.apd xs).2 ≠ 0 ∧ ((w.apd xs).2 = 9 → w.d.down = true) ∧ (w.apd xs).1.d.down = w.d.down ∧ KI (w.apd xs).1 S A O mb) := by
  have hlg : decide ((xs.length : Int) > 1048576) = false := decide_eq_false (by omega)
  unfold Lg.apd
  rw [hlg]
  cases hd : w.d.down with
  | true =>
    refine .inr (.inr ?_)
    by_cases h1 : (w.rdy false).2 = 0
    · rw [if_neg (by simp [h1]), app_down hd, if_neg (by simp)]
      exact ⟨by simp, fun _ => rfl, hd, h.chk _ hd⟩
    · rw [if_pos h1]
      refine ⟨h1, fun _ => rfl, hd, ?_⟩
      rw [rdy_down]
      exact h.chk _ hd
  | false =>
    obtain ⟨e1, e2, e3⟩ := h.up' hd
    obtain ⟨u1, u2, u3, u4, u5⟩ := h.up hd
    rw [rdy_up e2 u1, if_neg (by simp), e2]
    have hfl := formB_len xs
    have hn := h.ok.n
    have hcl := cont_len h.ok
    unfold Dk.append
    by_cases hr : w.d.ready ((w.d.n : Int) + ((formB xs).length : Int)) = 0
    · rw [if_pos hr]
      have hsz : (w.d.n : Int) + ((formB xs).length : Int) ≤ 4194304 := by
        unfold Dk.ready at hr
        rw [if_neg (by simp [hd])] at hr
        by_cases h9 : (w.d.n : Int) + ((formB xs).length : Int) > 4194304
        · rw [if_pos h9] at hr; simp at hr
        · omega
      obtain ⟨fz, f1, f2, hc⟩ := chg w.d h.ok.f0 (Dk.put (formB xs))
      have hput : ∀ dn, Dk.OK { Dk.put (formB xs) { w.d with fuse := fz } with down := dn } := fun dn => by
        have hl2 : (List.take w.d.n w.d.xs ++ formB xs).length = w.d.n + (formB xs).length := by rw [List.length_append]; exact congrArg (· + _) hcl
        refine ⟨Nat.le_refl _, ?_, h.ok.l0, ?_, f1, Int.le_trans f2 h.ok.fb⟩
        · show (List.take w.d.n w.d.xs ++ formB xs).length ≤ 4194304; omega
        · show w.d.lasts ≤ ((List.take w.d.n w.d.xs ++ formB xs).length : Int)
          have := h.ok.ln
          omega
      have hcon : ∀ dn, Dk.cont { Dk.put (formB xs) { w.d with fuse := fz } with down := dn } = formsL (A ++ [xs]) := fun dn => by
        show List.take (List.take w.d.n w.d.xs ++ formB xs).length (List.take w.d.n w.d.xs ++ formB xs) = _
        rw [List.take_length, formsL_append, formsL_cons, formsL_nil, List.append_nil, ← u3]
      have hbb : AllB (List.take w.d.n w.d.xs ++ formB xs) := (h.ab.take _).append (formB_b hx (by omega))
      have hnn : ((List.take w.d.n w.d.xs ++ formB xs).length : Int) = w.size + (4 + (xs.length : Int)) := by
        rw [List.length_append, u2, show (List.take w.d.n w.d.xs).length = w.d.n from hcl, hfl]; push_cast; omega
      have hal : (A ++ [xs]).length ≤ 8388608 := by
        have := h.ok.big
        rw [List.length_append]; simp; omega
      have hrr := h.rr
      rcases hc with hc | hc | hc
      · refine .inl ?_
        rw [hc, if_pos rfl]
        refine ⟨rfl, rfl, hd, hput w.d.down, hbb, h.rS, h.rA.snoc hx (by omega), h.rO, h.rR.snoc hx (by omega), ?_, ?_, hal, h.sl, h.ol, fun _ => ⟨?_, ?_, hcon w.d.down, u4.trans (List.prefix_append _ _), u5⟩, fun h2 => ?_⟩
        · show 4 * ((w.R ++ [xs]).length : Int) ≤ w.size + (4 + (xs.length : Int))
          have e : (w.R ++ [xs]).length = w.R.length + 1 := by rw [List.length_append]; rfl
          rw [e]; omega
        · show w.size + (4 + (xs.length : Int)) ≤ 4194304
          rw [← hnn]
          have := (hput false).big
          have e : (List.take w.d.n w.d.xs ++ formB xs).length ≤ 4194304 := this
          omega
        · show (w.over || ((0 : Int) == 9)) = false
          rw [u1]; rfl
        · show w.size + (4 + (xs.length : Int)) = ((List.take w.d.n w.d.xs ++ formB xs).length : Int)
          exact hnn.symm
        · have : w.d.down = true := h2
          rw [hd] at this; cases this
      · refine .inr (.inl ?_)
        rw [hc, if_neg (by simp)]
        refine ⟨rfl, rfl, rfl, hput true, hbb, h.rS, h.rA.snoc hx (by omega), h.rO, h.rR, hrr, h.sz, hal, h.sl, h.ol, fun h2 => (by cases h2), fun _ => .inl ⟨A ++ [xs], hcon true, List.prefix_refl _, u4.trans (List.prefix_append _ _), u5⟩⟩
      · refine .inr (.inl ?_)
        rw [hc, if_neg (by simp)]
        refine ⟨rfl, rfl, rfl, fuse_ok h.ok f1 f2 true, h.ab, h.rS, h.rA.snoc hx (by omega), h.rO, h.rR, hrr, h.sz, hal, h.sl, h.ol, fun h2 => (by cases h2), fun _ => .inl ⟨A, u3, List.prefix_append _ _, u4, u5⟩⟩
    · refine .inr (.inr ?_)
      rw [if_neg hr, if_neg (by simpa using hr)]
      have h7 : w.d.ready ((w.d.n : Int) + ((formB xs).length : Int)) = 7 := by
        unfold Dk.ready at hr ⊢
        rw [if_neg (by simp [hd])] at hr ⊢
        split
        · rfl
        · rename_i h9; rw [if_neg h9] at hr; exact absurd rfl hr
      rw [h7]
      refine ⟨by simp, fun h9 => by simp at h9, hd, ?_⟩
      have : w.tell (w.d, 7) = w := by
        obtain ⟨d, R, size, over⟩ := w
        simp [Lg.tell]
      rw [this]
      exact h
theorem KI.syn {w : Lg} {S A O : List (List Tr)} {mb : Bool} (h : KI w S A O mb) :
    (w.syn.2 = 0 ∧ w.d.down = false ∧ w.syn.1.d.down = false ∧ KI w.syn.1 A A O mb) ∨
    (w.syn.2 ≠ 0 ∧ w.syn.1.d.down = (w.d.down || (w.syn.2 == 9)) ∧ KI w.syn.1 S A O mb) := by
  unfold Lg.syn
  cases hd : w.d.down with
  | true =>
    refine .inr ?_
    by_cases h1 : (w.rdy false).2 = 0
    · rw [if_neg (by simp [h1]), syn_down hd]
      exact ⟨by simp, (by rw [Bool.true_or]; exact hd), h.chk _ hd⟩
    · rw [if_pos h1]
      refine ⟨h1, (by rw [Bool.true_or]; exact hd), ?_⟩
      rw [rdy_down]
      exact h.chk _ hd
  | false =>
    obtain ⟨e1, e2, e3⟩ := h.up' hd
    obtain ⟨u1, u2, u3, u4, u5⟩ := h.up hd
    rw [rdy_up e2 u1, if_neg (by simp), e2]
    have hr : w.d.ready 0 = 0 := by unfold Dk.ready; rw [if_neg (by simp [hd])]; rfl
    unfold Dk.sync
    rw [if_pos hr]
    obtain ⟨fz, f1, f2, hc⟩ := chg w.d h.ok.f0 Dk.syn
    have hput : ∀ dn, Dk.OK { Dk.syn { w.d with fuse := fz } with down := dn } := fun dn => ⟨h.ok.n, h.ok.big, by show (0 : Int) ≤ (w.d.n : Int); omega, Int.le_refl _, f1, Int.le_trans f2 h.ok.fb⟩
    have hll := u4.length_le
    rcases hc with hc | hc | hc
    · refine .inl ?_
      rw [hc]
      refine ⟨rfl, rfl, hd, hput w.d.down, h.ab, h.rA, h.rA, h.rO, h.rR, h.rr, h.sz, h.al, h.al, h.ol, fun _ => ⟨?_, u2, u3, List.prefix_refl _, ?_⟩, fun h2 => ?_⟩
      · show (w.over || ((0 : Int) == 9)) = false
        rw [u1]; rfl
      · show ((formsL A).length : Int) ≤ (w.d.n : Int)
        omega
      · have : w.d.down = true := h2
        rw [hd] at this; cases this
    · refine .inr ?_
      rw [hc]
      have hln : ((formsL S).length : Int) ≤ (w.d.n : Int) := by have := h.ok.ln; omega
      exact ⟨by simp, rfl, hput true, h.ab, h.rS, h.rA, h.rO, h.rR, h.rr, h.sz, h.al, h.sl, h.ol, fun h2 => (by cases h2), fun _ => .inl ⟨A, u3, List.prefix_refl _, u4, hln⟩⟩
    · refine .inr ?_
      rw [hc]
      exact ⟨by simp, rfl, fuse_ok h.ok f1 f2 true, h.ab, h.rS, h.rA, h.rO, h.rR, h.rr, h.sz, h.al, h.sl, h.ol, fun h2 => (by cases h2), fun _ => .inl ⟨A, u3, List.prefix_refl _, u4, u5⟩⟩
theorem KI.rep {w : Lg} {S A O : List (List Tr)} {mb : Bool} (h : KI w S A O mb) {Q : List (List Tr)} (hQ : AllR Q) (hq : Rlong Q = false) (hl : (formsL Q).length ≤ 8000) :
    ((w.rep Q).2 = 0 ∧ w.d.down = false ∧ (w.rep Q).1.d.down = false ∧ KI (w.rep Q).1 Q Q O mb) ∨
    ((w.rep Q).2 ≠ 0 ∧ w.d.down = false ∧ (w.rep Q).1.d.down = ((w.rep Q).2 == 9) ∧ KI (w.rep Q).1 S A Q true) ∨
    ((w.rep Q).2 ≠ 0 ∧ w.d.down = true ∧ (w.rep Q).1.d.down = true ∧ KI (w.rep Q).1 S A O mb) := by
  have hlen := formsL_len Q
  unfold Lg.rep
  rw [hq]
  cases hd : w.d.down with
  | true =>
    refine .inr (.inr ?_)
    by_cases h1 : (w.rdy false).2 = 0
    · rw [if_neg (by simp [h1]), rep_down hd, if_neg (by simp)]
      exact ⟨by simp, rfl, hd, h.chk _ hd⟩
    · rw [if_pos h1]
      refine ⟨h1, rfl, hd, ?_⟩
      rw [rdy_down]
      exact h.chk _ hd
  | false =>
    obtain ⟨e1, e2, e3⟩ := h.up' hd
    obtain ⟨u1, u2, u3, u4, u5⟩ := h.up hd
    rw [rdy_up e2 u1, if_neg (by simp), e2]
    have hr : w.d.ready (formsL Q).length = 0 := by unfold Dk.ready; rw [if_neg (by simp [hd]), if_neg (by omega)]
    unfold Dk.replace
    rw [if_pos hr]
    obtain ⟨fz, f1, f2, hc⟩ := chg w.d h.ok.f0 (Dk.set (formsL Q))
    have hput : ∀ dn, Dk.OK { Dk.set (formsL Q) { w.d with fuse := fz } with down := dn } := fun dn => ⟨Nat.le_refl _, by show (formsL Q).length ≤ 4194304; omega, by show (0 : Int) ≤ ((formsL Q).length : Int); omega, Int.le_refl _, f1, Int.le_trans f2 h.ok.fb⟩
    have hcon : ∀ dn, Dk.cont { Dk.set (formsL Q) { w.d with fuse := fz } with down := dn } = formsL Q := fun dn => List.take_length ..
    rcases hc with hc | hc | hc
    · refine .inl ?_
      rw [hc, if_pos rfl]
      refine ⟨rfl, rfl, hd, hput w.d.down, allR_formsB hQ, hQ, hQ, h.rO, hQ, ?_, ?_, by omega, by omega, h.ol, fun _ => ⟨?_, rfl, hcon w.d.down, List.prefix_refl _, Int.le_refl _⟩, fun h2 => ?_⟩
      · show 4 * (Q.length : Int) ≤ ((formsL Q).length : Int); omega
      · show ((formsL Q).length : Int) ≤ 4194304; omega
      · show (w.over || ((0 : Int) == 9)) = false
        rw [u1]; rfl
      · have : w.d.down = true := h2
        rw [hd] at this; cases this
    · refine .inr (.inl ?_)
      rw [hc, if_neg (by simp)]
      exact ⟨by simp, rfl, rfl, hput true, allR_formsB hQ, h.rS, h.rA, hQ, h.rR, h.rr, h.sz, h.al, h.sl, by omega, fun h2 => (by cases h2), fun _ => .inr ⟨rfl, hcon true, rfl⟩⟩
    · refine .inr (.inl ?_)
      rw [hc, if_neg (by simp)]
      exact ⟨by simp, rfl, rfl, fuse_ok h.ok f1 f2 true, h.ab, h.rS, h.rA, hQ, h.rR, h.rr, h.sz, h.al, h.sl, by omega, fun h2 => (by cases h2), fun _ => .inl ⟨A, u3, List.prefix_refl _, u4, u5⟩⟩
theorem KI.fuse {w : Lg} {S A O : List (List Tr)} {mb : Bool} (h : KI w S A O mb) (n : Int) (hn : n ≤ 9223372036854775807) (done : Bool) : KI { w with d := w.d.fuseTo n done } S A O mb :=
  ⟨⟨h.ok.n, h.ok.big, h.ok.l0, h.ok.ln, by show 0 ≤ max n 0; omega, by show max n 0 ≤ _; omega⟩, h.ab, h.rS, h.rA, h.rO, h.rR, h.rr, h.sz, h.al, h.sl, h.ol, h.up, h.dn⟩
end Stk
