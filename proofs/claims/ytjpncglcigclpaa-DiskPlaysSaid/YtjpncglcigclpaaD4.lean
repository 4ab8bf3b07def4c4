/- What the disk's calls do, in plain words. -/
import Derived.Test.YtjpncglcigclpaaD3
namespace Stk
open Go
set_option linter.unusedSimpArgs false
set_option linter.unusedVariables false
def Dk.c (d : Dk) : List Tr := d.xs.take d.n
/-- The parts that a work is about. -/
def Dk.same (d e : Dk) : Prop := d.xs = e.xs ∧ d.n = e.n ∧ d.lasts = e.lasts
theorem Dk.same.c {d e : Dk} (h : d.same e) : d.c = e.c := by simp [Dk.c, h.1, h.2.1]
structure Works (d : Dk) (work : Dk → Dk) : Prop where
  same : ∀ f, (work { d with fuse := f }).same (work d)
  down : ∀ f, (work { d with fuse := f }).down = d.down
  fuse : ∀ f, (work { d with fuse := f }).fuse = f
  n : (work d).n ≤ (work d).xs.length
  big : (work d).n ≤ 4194304
  l0 : 0 ≤ (work d).lasts
  ln : (work d).lasts ≤ (work d).n
theorem change3 {d : Dk} (hd : d.OK) (hu : d.down = false) {work : Dk → Dk} (hw : Works d work) :
    (d.change work).1.OK ∧ (((d.change work).2 = 0 ∧ (d.change work).1.down = false ∧ (d.change work).1.same (work d)) ∨
      ((d.change work).2 = 9 ∧ (d.change work).1.down = true ∧ ((d.change work).1.same (work d) ∨ (d.change work).1.same d))) := by
  have f0 := hd.f0
  have fb := hd.fb
  have ok (f : Int) (b : Bool) (h0 : 0 ≤ f) (h1 : f ≤ d.fuse) : Dk.OK { work { d with fuse := f } with down := b } := by
    obtain ⟨s1, s2, s3⟩ := hw.same f
    refine ⟨?_, ?_, ?_, ?_, ?_, ?_⟩ <;> dsimp only
    · rw [s1, s2]; exact hw.n
    · rw [s2]; exact hw.big
    · rw [s3]; exact hw.l0
    · rw [s2, s3]; exact hw.ln
    · rw [hw.fuse]; exact h0
    · rw [hw.fuse]; omega
  have eta (e : Dk) (b : Bool) (h : e.down = b) : ({ e with down := b } : Dk) = e := by cases e; simp_all
  unfold Dk.change
  split
  · have e0 : ({ d with fuse := d.fuse } : Dk) = d := by cases d; rfl
    have h1 := ok d.fuse false f0 (Int.le_refl _)
    have h2 := hw.down d.fuse
    rw [e0] at h1 h2
    rw [eta _ _ (by rw [h2, hu])] at h1
    exact ⟨h1, .inl ⟨rfl, by rw [h2, hu], rfl, rfl, rfl⟩⟩
  · split
    · have h1 := ok (d.fuse - 1) false (by omega) (by omega)
      have h2 := hw.down (d.fuse - 1)
      rw [eta _ _ (by rw [h2, hu])] at h1
      exact ⟨h1, .inl ⟨rfl, by rw [h2, hu], hw.same _⟩⟩
    · split
      · exact ⟨ok (d.fuse - 1) true (by omega) (by omega), .inr ⟨rfl, rfl, .inl (hw.same (d.fuse - 1))⟩⟩
      · exact ⟨⟨hd.n, hd.big, hd.l0, hd.ln, by dsimp only; omega, by dsimp only; omega⟩, .inr ⟨rfl, rfl, .inr ⟨rfl, rfl, rfl⟩⟩⟩
theorem ready_up {d : Dk} (hu : d.down = false) {s : Int} (hs : s ≤ 4194304) : d.ready s = 0 := by
  unfold Dk.ready; rw [if_neg (by simp [hu]), if_neg (by omega)]
theorem ready_dn {d : Dk} (hu : d.down = true) (s : Int) : d.ready s = 9 := by
  unfold Dk.ready; rw [if_pos hu]
theorem works_put {d : Dk} (hd : d.OK) (ys : List Tr) (hb : d.n + ys.length ≤ 4194304) : Works d (Dk.put ys) := by
  have hn := hd.n
  have hl : (d.xs.take d.n ++ ys).length = d.n + ys.length := by simp; omega
  refine ⟨fun _ => ⟨rfl, rfl, rfl⟩, fun _ => rfl, fun _ => rfl, Nat.le_refl _, ?_, hd.l0, ?_⟩
  · show (d.xs.take d.n ++ ys).length ≤ _; omega
  · show d.lasts ≤ ((d.xs.take d.n ++ ys).length : Int); have := hd.ln; omega
theorem works_syn {d : Dk} (hd : d.OK) : Works d Dk.syn :=
  ⟨fun _ => ⟨rfl, rfl, rfl⟩, fun _ => rfl, fun _ => rfl, hd.n, hd.big, by show (0 : Int) ≤ (d.n : Int); omega, by show ((d.n : Nat) : Int) ≤ _; exact Int.le_refl _⟩
theorem works_set {d : Dk} (ys : List Tr) (hb : ys.length ≤ 4194304) : Works d (Dk.set ys) :=
  ⟨fun _ => ⟨rfl, rfl, rfl⟩, fun _ => rfl, fun _ => rfl, Nat.le_refl _, hb, by show (0 : Int) ≤ (ys.length : Int); omega, Int.le_refl _⟩
theorem put_c {d : Dk} (ys : List Tr) : (d.put ys).c = d.c ++ ys := by
  show (d.xs.take d.n ++ ys).take (d.xs.take d.n ++ ys).length = d.xs.take d.n ++ ys
  rw [List.take_length]
theorem syn_c {d : Dk} : d.syn.c = d.c := rfl
theorem set_c {d : Dk} (ys : List Tr) : (d.set ys).c = ys := by simp [Dk.c, Dk.set]
theorem c_length {d : Dk} (hd : d.OK) : d.c.length = d.n := by have := hd.n; simp [Dk.c]; omega

/-- What the law's loop knows: what lasts for sure, all that may be there, the other file. -/
structure Keep (i : Nat) (d : Dk) (S A O : List Tr) (m : Bool) : Prop where
  ok : d.OK
  xb : AllB d.xs
  sb : AllB S
  ab : AllB A
  ob : AllB O
  dn : d.n ≤ 2000 * i
  an : A.length ≤ 2000 * i
  on : O.length ≤ 2000
  up : d.down = false → A = d.c ∧ S <+: d.c.take d.lasts.toNat ∧ m = false
  dw : d.down = true → (d.c <+: A ∧ S <+: d.c.take d.lasts.toNat) ∨ (m = true ∧ O = d.c ∧ d.lasts = d.n)
theorem Keep.next {i : Nat} {d : Dk} {S A O : List Tr} {m : Bool} (h : Keep i d S A O m) : Keep (i + 1) d S A O m :=
  ⟨h.ok, h.xb, h.sb, h.ab, h.ob, by have := h.dn; omega, by have := h.an; omega, h.on, h.up, h.dw⟩
theorem take_app {xs ys : List Tr} {k : Nat} (h : k ≤ xs.length) : (xs ++ ys).take k = xs.take k := by
  rw [List.take_append_of_le_length h]
theorem keep_append {i : Nat} {d : Dk} {S A O : List Tr} {m : Bool} (h : Keep i d S A O m) (hi : i < 60) (ys : List Tr) (hy : AllB ys) (hl : ys.length ≤ 2000) :
    (d.down = true ∧ d.append ys = (d, 9)) ∨ (d.down = false ∧ ((d.append ys).2 = 0 ∨ (d.append ys).2 = 9) ∧ Keep (i + 1) (d.append ys).1 S (A ++ ys) O m) := by
  cases hu : d.down with
  | true =>
    left
    refine ⟨rfl, ?_⟩
    unfold Dk.append
    rw [ready_dn hu, if_neg (by decide)]
  | false =>
    right
    obtain ⟨u1, u2, u3⟩ := h.up hu
    have hdn := h.dn
    have han := h.an
    have e : d.append ys = d.change (Dk.put ys) := by
      unfold Dk.append
      rw [ready_up hu (by omega), if_pos rfl]
    rw [e]
    obtain ⟨ok, hc⟩ := change3 h.ok hu (works_put h.ok ys (by omega))
    generalize d.change (Dk.put ys) = p at ok hc ⊢
    have hcl := c_length h.ok
    have hln := h.ok.ln
    have hl0 := h.ok.l0
    have xput : AllB (d.put ys).xs := AllB.append (h.xb.take _) hy
    have hput : (d.put ys).n ≤ 2000 * (i + 1) := by
      have : (d.put ys).n = (d.c ++ ys).length := rfl
      rw [this]; simp [hcl]; omega
    have han' : (A ++ ys).length ≤ 2000 * (i + 1) := by simp; omega
    have S2 : S <+: (d.c ++ ys).take d.lasts.toNat := by rw [take_app (by omega)]; exact u2
    refine ⟨rfl, by rcases hc with hc | hc; exact .inl hc.1; exact .inr hc.1, ?_⟩
    rcases hc with ⟨_, c2, c3⟩ | ⟨_, c2, c3⟩
    · refine ⟨ok, by rw [c3.1]; exact xput, h.sb, h.ab.append hy, h.ob, by rw [c3.2.1]; exact hput, han', h.on, fun _ => ?_, fun hd => by rw [c2] at hd; cases hd⟩
      rw [c3.c, put_c, c3.2.2]
      exact ⟨by rw [u1], S2, u3⟩
    · rcases c3 with c3 | c3
      · refine ⟨ok, by rw [c3.1]; exact xput, h.sb, h.ab.append hy, h.ob, by rw [c3.2.1]; exact hput, han', h.on, fun hd => by (rw [c2] at hd; cases hd), fun _ => .inl ?_⟩
        rw [c3.c, put_c, c3.2.2]
        exact ⟨by rw [u1]; exact List.prefix_rfl, S2⟩
      · refine ⟨ok, by rw [c3.1]; exact h.xb, h.sb, h.ab.append hy, h.ob, by rw [c3.2.1]; omega, han', h.on, fun hd => by (rw [c2] at hd; cases hd), fun _ => .inl ?_⟩
        rw [c3.c, c3.2.2]
        exact ⟨by rw [u1]; exact List.prefix_append _ _, u2⟩
theorem keep_sync {i : Nat} {d : Dk} {S A O : List Tr} {m : Bool} (h : Keep i d S A O m) :
    (d.sync.2 = 0 ∧ Keep (i + 1) d.sync.1 A A O m) ∨ (d.sync.2 ≠ 0 ∧ Keep (i + 1) d.sync.1 S A O m) := by
  cases hu : d.down with
  | true =>
    right
    have : d.sync = (d, 9) := by unfold Dk.sync; rw [ready_dn hu, if_neg (by decide)]
    rw [this]
    exact ⟨by simp, h.next⟩
  | false =>
    obtain ⟨u1, u2, u3⟩ := h.up hu
    have hdn := h.dn
    have han := h.an
    have e : d.sync = d.change Dk.syn := by
      unfold Dk.sync
      rw [ready_up hu (by omega), if_pos rfl]
    rw [e]
    obtain ⟨ok, hc⟩ := change3 h.ok hu (works_syn h.ok)
    generalize d.change Dk.syn = p at ok hc ⊢
    have hcl := c_length h.ok
    have hln := h.ok.ln
    have hl0 := h.ok.l0
    have hs : d.syn.lasts = d.n := rfl
    have S2 : S <+: d.c.take (d.n : Int).toNat := by
      refine u2.trans ?_
      rw [show d.c.take (d.n : Int).toNat = d.c from List.take_of_length_le (by omega)]
      exact List.take_prefix _ _
    rcases hc with ⟨c1, c2, c3⟩ | ⟨c1, c2, c3⟩
    · refine .inl ⟨c1, ok, by rw [c3.1]; exact h.xb, h.ab, h.ab, h.ob, by rw [c3.2.1]; show d.n ≤ _; omega, by omega, h.on, fun _ => ?_, fun hd => by rw [c2] at hd; cases hd⟩
      rw [c3.c, syn_c, c3.2.2, hs]
      refine ⟨u1, ?_, u3⟩
      rw [u1, List.take_of_length_le (by omega)]; exact List.prefix_rfl
    · right
      refine ⟨by omega, ?_⟩
      rcases c3 with c3 | c3
      · refine ⟨ok, by rw [c3.1]; exact h.xb, h.sb, h.ab, h.ob, by rw [c3.2.1]; show d.n ≤ _; omega, by omega, h.on, fun hd => by (rw [c2] at hd; cases hd), fun _ => .inl ?_⟩
        rw [c3.c, syn_c, c3.2.2, hs]
        exact ⟨by rw [u1]; exact List.prefix_rfl, S2⟩
      · refine ⟨ok, by rw [c3.1]; exact h.xb, h.sb, h.ab, h.ob, by rw [c3.2.1]; omega, by omega, h.on, fun hd => by (rw [c2] at hd; cases hd), fun _ => .inl ?_⟩
        rw [c3.c, c3.2.2]
        exact ⟨by rw [u1]; exact List.prefix_rfl, u2⟩
theorem keep_replace {i : Nat} {d : Dk} {S A O : List Tr} {m : Bool} (h : Keep i d S A O m) (ys : List Tr) (hy : AllB ys) (hl : ys.length ≤ 2000) (hi : i < 60) :
    (d.down = true ∧ d.replace ys = (d, 9)) ∨ (d.down = false ∧ (d.replace ys).2 = 0 ∧ Keep (i + 1) (d.replace ys).1 ys ys O m) ∨ (d.down = false ∧ (d.replace ys).2 = 9 ∧ Keep (i + 1) (d.replace ys).1 S A ys true) := by
  cases hu : d.down with
  | true =>
    left
    refine ⟨rfl, ?_⟩
    unfold Dk.replace
    rw [ready_dn hu, if_neg (by decide)]
  | false =>
    right
    obtain ⟨u1, u2, u3⟩ := h.up hu
    have hdn := h.dn
    have han := h.an
    have e : d.replace ys = d.change (Dk.set ys) := by
      unfold Dk.replace
      rw [ready_up hu (by omega), if_pos rfl]
    rw [e]
    obtain ⟨ok, hc⟩ := change3 h.ok hu (works_set ys (by omega))
    generalize d.change (Dk.set ys) = p at ok hc ⊢
    have hcl := c_length h.ok
    have hs : (d.set ys).lasts = ys.length := rfl
    rcases hc with ⟨c1, c2, c3⟩ | ⟨c1, c2, c3⟩
    · refine .inl ⟨rfl, c1, ok, by rw [c3.1]; exact hy, hy, hy, h.ob, by rw [c3.2.1]; show ys.length ≤ _; omega, by omega, h.on, fun _ => ?_, fun hd => by rw [c2] at hd; cases hd⟩
      rw [c3.c, set_c, c3.2.2, hs]
      refine ⟨rfl, ?_, u3⟩
      rw [List.take_of_length_le (by omega)]; exact List.prefix_rfl
    · refine .inr ⟨rfl, c1, ?_⟩
      rcases c3 with c3 | c3
      · refine ⟨ok, by rw [c3.1]; exact hy, h.sb, h.ab, hy, by rw [c3.2.1]; show ys.length ≤ _; omega, by omega, hl, fun hd => by (rw [c2] at hd; cases hd), fun _ => .inr ?_⟩
        rw [c3.c, set_c, c3.2.2, hs, c3.2.1]
        exact ⟨rfl, rfl, rfl⟩
      · refine ⟨ok, by rw [c3.1]; exact h.xb, h.sb, h.ab, hy, by rw [c3.2.1]; omega, by omega, hl, fun hd => by (rw [c2] at hd; cases hd), fun _ => .inl ?_⟩
        rw [c3.c, c3.2.2]
        exact ⟨by rw [u1]; exact List.prefix_rfl, u2⟩
theorem keep_fuse {i : Nat} {d : Dk} {S A O : List Tr} {m : Bool} (h : Keep i d S A O m) (n : Int) (hn : n ≤ 9223372036854775807) (b : Bool) : Keep (i + 1) (d.fuseTo n b) S A O m := by
  have := h.next
  exact ⟨⟨h.ok.n, h.ok.big, h.ok.l0, h.ok.ln, by show 0 ≤ max n 0; omega, by show max n 0 ≤ _; omega⟩, h.xb, h.sb, h.ab, h.ob, this.dn, this.an, this.on, h.up, h.dw⟩
theorem keep_crash {i : Nat} {d : Dk} {S A O : List Tr} {m : Bool} (h : Keep i d S A O m) (k : Int) :
    (S <+: (d.crash k).1.c ∧ (d.crash k).1.c <+: A ∨ m = true ∧ (d.crash k).1.c = O) ∧ ∀ O', AllB O' → O'.length ≤ 2000 → Keep (i + 1) (d.crash k).1 (d.crash k).1.c (d.crash k).1.c O' false := by
  obtain ⟨e1, e2⟩ := crash_n d h.ok k
  have hl0 := h.ok.l0
  have hln := h.ok.ln
  have hcl := c_length h.ok
  have en : (d.crash k).1.n = (d.lasts + max 0 (min k ((d.n : Int) - d.lasts))).toNat := rfl
  have hge : d.lasts.toNat ≤ (d.crash k).1.n := by rw [en]; omega
  have ec : (d.crash k).1.c = d.c.take (d.crash k).1.n := by
    show d.xs.take (d.crash k).1.n = (d.xs.take d.n).take (d.crash k).1.n
    rw [List.take_take, Nat.min_eq_left e2]
  have hpre : d.c.take d.lasts.toNat <+: (d.crash k).1.c := by
    rw [ec]; exact List.take_prefix_take_left hge
  have ok := crash_ok d h.ok k
  have ccl := c_length ok
  have xb : AllB (d.crash k).1.c := h.xb.take _
  refine ⟨?_, fun O' hO hO2 => ⟨ok, h.xb, xb, xb, hO, by have := h.dn; omega, by have := h.dn; omega, hO2, fun _ => ⟨rfl, ?_, rfl⟩, fun hd => by cases hd⟩⟩
  · have alt1 (h1 : d.c <+: A) (h2 : S <+: d.c.take d.lasts.toNat) : S <+: (d.crash k).1.c ∧ (d.crash k).1.c <+: A := by
      refine ⟨h2.trans hpre, ?_⟩
      rw [ec]; exact (List.take_prefix _ _).trans h1
    cases hu : d.down with
    | false =>
      obtain ⟨u1, u2, u3⟩ := h.up hu
      exact .inl (alt1 (by rw [u1]; exact List.prefix_rfl) u2)
    | true =>
      rcases h.dw hu with ⟨u1, u2⟩ | ⟨u1, u2, u3⟩
      · exact .inl (alt1 u1 u2)
      · refine .inr ⟨u1, ?_⟩
        rw [ec, u2, List.take_of_length_le (by omega)]
  · rw [← e1, Int.toNat_natCast, List.take_of_length_le (by omega)]; exact List.prefix_rfl
end Stk
