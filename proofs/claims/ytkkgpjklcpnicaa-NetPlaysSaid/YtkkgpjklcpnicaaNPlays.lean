/- NetPlays: the law's contract. -/
import Derived.Test.YtkkgpjklcpnicaaNR
import Derived.Test.YtkkgpjklcpnicaaFw25
namespace Stk
open Go
set_option maxRecDepth 100000
set_option linter.unusedSimpArgs false
set_option linter.unusedVariables false
set_option maxHeartbeats 4000000
abbrev NH (d : Nt) : Hp := [d.v 1, .row 1 d.xs, Rn.v d.c 3, .row 1 d.c]
abbrev NH' (d : Nt) : Hp := [d.v 1, .row 1 d.xs, Rn.v d.c 4, .gone, .row 1 d.c]
theorem Ns.c_all {d : Nt} (h : Ns.OK d) : Ns.All d.c := h.all.take _
theorem has_eq {d : Nt} (h : Ns.OK d) (i : Int) : Rn.has d.c i = Ns.Nt.has d i := by
  unfold Rn.has Ns.Nt.has
  rw [Ns.c_length h]
theorem sim_send {d : Nt} (h : Ns.OK d) {ys : List Tr} (ha : Ns.All ys) : (Ns.Nt.send d ys).2 = (Rn.send d.c ys).2 ∧ Ns.OK (Ns.Nt.send d ys).1 ∧ (Rn.send d.c ys).1 = (Ns.Nt.send d ys).1.c := by
  rcases Ns.send_c d h ys ha with ⟨h1, h2, h3⟩ | ⟨h1, h2, h3, h4⟩
  · unfold Rn.send
    rw [if_pos (by omega), h1, h2]
    exact ⟨rfl, h, rfl⟩
  · unfold Rn.send
    rw [if_neg (by omega), h1, h3]
    exact ⟨rfl, h2, rfl⟩
structure AlSt (n : Nat) (L : List Tr) where
  i : Nat
  xs : List Tr
  l : xs.length = n
  e : xs.drop i = L.drop i
theorem drop_set {xs L : List Tr} {i : Nat} (h : xs.drop i = L.drop i) (v : Tr) : (xs.set i v).drop (i + 1) = L.drop (i + 1) := by
  have : (xs.set i v).drop (i + 1) = xs.drop (i + 1) := by
    rw [List.drop_set_of_lt (by omega)]
  rw [this, ← List.drop_drop, ← List.drop_drop, h]
theorem k_alike (d : Nt) (hd : Ns.OK d) : ACalls PP GG F.law27_alike [pt 0, pt 2] (NH d) fun r H' => r = tb true ∧ H' = NH' d := by
  have hcl := Ns.c_length hd
  have hb := hd.big
  have hca := Ns.c_all hd
  refine K.law27_alike.callsQ rfl ?_
  refine sat_call (Ns.alls d hd) ?_
  rintro r H' ⟨rfl, rfl⟩
  (conv => arg 3; whnf); repeat (first | ((with_reducible refine sat_brT ?_ ?_); rfl; conv => arg 3; whnf) | ((with_reducible refine sat_brF ?_ ?_); rfl; conv => arg 3; whnf) | ((with_reducible refine sat_eqv ?_ ?_); rfl; conv => arg 3; whnf))
  refine sat_brF (by simp) ?_
  (conv => arg 3; whnf); repeat (first | ((with_reducible refine sat_brT ?_ ?_); rfl; conv => arg 3; whnf) | ((with_reducible refine sat_brF ?_ ?_); rfl; conv => arg 3; whnf) | ((with_reducible refine sat_eqv ?_ ?_); rfl; conv => arg 3; whnf))
  refine sat_call (Ns.len d) ?_
  rintro r H' ⟨rfl, rfl⟩
  (conv => arg 3; whnf); repeat (first | ((with_reducible refine sat_brT ?_ ?_); rfl; conv => arg 3; whnf) | ((with_reducible refine sat_brF ?_ ?_); rfl; conv => arg 3; whnf) | ((with_reducible refine sat_eqv ?_ ?_); rfl; conv => arg 3; whnf))
  refine sat_brF (by simp [hcl]) ?_
  (conv => arg 3; whnf); repeat (first | ((with_reducible refine sat_brT ?_ ?_); rfl; conv => arg 3; whnf) | ((with_reducible refine sat_brF ?_ ?_); rfl; conv => arg 3; whnf) | ((with_reducible refine sat_eqv ?_ ?_); rfl; conv => arg 3; whnf))
  refine sat_loopOf mkX_ops (σ := AlSt d.c.length d.c) (fun x => [(1, pt 0), (5, .sl 2 0 [] 0 d.c.length none), (6, ti x.i)]) (fun x => [Rn.v d.c 1, .row 1 d.c, .row 1 x.xs]) (fun x => d.c.length - x.i)
    (fun ex fr' H' => ex = .exit 0 ∧ fr' = [(4, .undef)] ∧ ∃ xs, H' = [Rn.v d.c 1, .row 1 d.c, .row 1 xs]) ⟨0, d.c, rfl, rfl⟩ ?_ ?_
  · rintro ⟨i, xs, xl, xe⟩
    dsimp only
    refine sat_br (fun hi => ?_) (fun hi => ?_)
    · have hi : i < d.c.length := by have := of_decide_eq_true hi; omega
      obtain ⟨s, hs⟩ := hca.get hi
      have hs' : xs[i]? = some (.str s) := by
        have := congrArg (fun l : List Tr => l[0]?) xe
        simp only [List.getElem?_drop, Nat.add_zero] at this
        rw [this]; exact hs
      (conv => arg 3; whnf); repeat (first | ((with_reducible refine sat_brT ?_ ?_); rfl; conv => arg 3; whnf) | ((with_reducible refine sat_brF ?_ ?_); rfl; conv => arg 3; whnf) | ((with_reducible refine sat_eqv ?_ ?_); rfl; conv => arg 3; whnf))
      refine sat_asrt (decide_eq_true (by omega)) ?_
      (conv => arg 3; whnf); repeat (first | ((with_reducible refine sat_brT ?_ ?_); rfl; conv => arg 3; whnf) | ((with_reducible refine sat_brF ?_ ?_); rfl; conv => arg 3; whnf) | ((with_reducible refine sat_eqv ?_ ?_); rfl; conv => arg 3; whnf))
      refine sat_idx (.str s) (by simp) (by simpa using hs') ?_
      (conv => arg 3; whnf); repeat (first | ((with_reducible refine sat_brT ?_ ?_); rfl; conv => arg 3; whnf) | ((with_reducible refine sat_brF ?_ ?_); rfl; conv => arg 3; whnf) | ((with_reducible refine sat_eqv ?_ ?_); rfl; conv => arg 3; whnf))
      refine sat_asrt (decide_eq_true (by omega)) ?_
      (conv => arg 3; whnf); repeat (first | ((with_reducible refine sat_brT ?_ ?_); rfl; conv => arg 3; whnf) | ((with_reducible refine sat_brF ?_ ?_); rfl; conv => arg 3; whnf) | ((with_reducible refine sat_eqv ?_ ?_); rfl; conv => arg 3; whnf))
      refine sat_idx (.str s) (by simp) (by simpa using hs) ?_
      (conv => arg 3; whnf); repeat (first | ((with_reducible refine sat_brT ?_ ?_); rfl; conv => arg 3; whnf) | ((with_reducible refine sat_brF ?_ ?_); rfl; conv => arg 3; whnf) | ((with_reducible refine sat_eqv ?_ ?_); rfl; conv => arg 3; whnf))
      refine sat_brF (by simp) ?_
      (conv => arg 3; whnf); repeat (first | ((with_reducible refine sat_brT ?_ ?_); rfl; conv => arg 3; whnf) | ((with_reducible refine sat_brF ?_ ?_); rfl; conv => arg 3; whnf) | ((with_reducible refine sat_eqv ?_ ?_); rfl; conv => arg 3; whnf))
      refine sat_asrt (decide_eq_true (by omega)) ?_
      refine sat_idx (.str s) (by simp) (by simpa using hs') ?_
      (conv => arg 3; whnf); repeat (first | ((with_reducible refine sat_brT ?_ ?_); rfl; conv => arg 3; whnf) | ((with_reducible refine sat_brF ?_ ?_); rfl; conv => arg 3; whnf) | ((with_reducible refine sat_eqv ?_ ?_); rfl; conv => arg 3; whnf))
      refine sat_rng (wrap64 (by omega) (by omega)) ?_
      exact sat_ret ⟨⟨i + 1, xs.set i (.str ⟨#[115, 112, 111, 105, 108, 116]⟩), by rw [List.length_set]; exact xl, drop_set xe _⟩, rfl, by rw [Int.toNat_natCast, Nat.zero_add], by show d.c.length - (i + 1) < d.c.length - i; omega⟩
    · refine sat_ret ?_
      exact ⟨rfl, rfl, xs, rfl⟩
  · rintro ex fr' H' ⟨rfl, rfl, xs, rfl⟩
    (conv => arg 3; whnf); repeat (first | ((with_reducible refine sat_brT ?_ ?_); rfl; conv => arg 3; whnf) | ((with_reducible refine sat_brF ?_ ?_); rfl; conv => arg 3; whnf) | ((with_reducible refine sat_eqv ?_ ?_); rfl; conv => arg 3; whnf))
    exact sat_ret ⟨rfl, rfl⟩
structure NpSt (n : Nat) where
  i : Nat
  d : Nt
  im : i ≤ n
  ok : Ns.OK d
structure SpS (n : Nat) where
  i : Nat
  xs : List Tr
  l : xs.length = n
  b : Ns.All xs
theorem Ns.All.set {xs : List Tr} (h : Ns.All xs) (i : Nat) (v : ByteArray) : Ns.All (xs.set i (.str v)) := fun y hy => by
  rcases List.mem_or_eq_of_mem_set hy with hy | rfl
  · exact h y hy
  · exact ⟨v, rfl⟩
abbrev ActD : TyD := .st [.int .i64, .int .i64, .sl 1 .str]
theorem act_of {x : Tr} (h : TrD ActD x) : ∃ a n f ys, x = .agg [.int .i64 a, .int .i64 n, .sl f 1 ys] ∧ ys.length * 16 ≤ 140737488351232 ∧ Ns.All ys := by
  obtain ⟨_, rfl, y0, _, rfl, ⟨a, rfl, _⟩, y1, _, rfl, ⟨n, rfl, _⟩, y2, _, rfl, ⟨f, ys, rfl, _, h1, h2⟩, rfl⟩ := h
  refine ⟨a, n, f, ys, rfl, h1, fun y hy => ?_⟩
  obtain ⟨s, rfl, _⟩ := h2 y hy
  exact ⟨s, rfl⟩
theorem k_netplays (x0 : Tr) (h0 : TrD (.sl 3 ActD) x0) : ACalls PP GG F.law27_NetPlays (toAVs [x0]) [] fun r _ => r = .t (.bool true) := by
  obtain ⟨full, l, rfl, hf, _, hl⟩ := h0
  refine K.law27_NetPlays.calls rfl ?_
  refine sat_call Ns.new ?_
  rintro r H' ⟨rfl, rfl⟩
  (conv => arg 3; whnf); repeat (first | ((with_reducible refine sat_brT ?_ ?_); rfl; conv => arg 3; whnf) | ((with_reducible refine sat_brF ?_ ?_); rfl; conv => arg 3; whnf) | ((with_reducible refine sat_eqv ?_ ?_); rfl; conv => arg 3; whnf))
  refine sat_br (fun h => ?_) (fun h => ?_)
  · (conv => arg 3; whnf); repeat (first | ((with_reducible refine sat_brT ?_ ?_); rfl; conv => arg 3; whnf) | ((with_reducible refine sat_brF ?_ ?_); rfl; conv => arg 3; whnf) | ((with_reducible refine sat_eqv ?_ ?_); rfl; conv => arg 3; whnf))
    refine sat_call k_wakes ?_
    rintro r H' ⟨rfl, rfl⟩
    (conv => arg 3; whnf); repeat (first | ((with_reducible refine sat_brT ?_ ?_); rfl; conv => arg 3; whnf) | ((with_reducible refine sat_brF ?_ ?_); rfl; conv => arg 3; whnf) | ((with_reducible refine sat_eqv ?_ ?_); rfl; conv => arg 3; whnf))
    exact sat_ret rfl
  · have hm : l.length ≤ 200 := by have := of_decide_eq_false h; omega
    (conv => arg 3; whnf); repeat (first | ((with_reducible refine sat_brT ?_ ?_); rfl; conv => arg 3; whnf) | ((with_reducible refine sat_brF ?_ ?_); rfl; conv => arg 3; whnf) | ((with_reducible refine sat_eqv ?_ ?_); rfl; conv => arg 3; whnf))
    refine sat_loopOf mkX_ops (σ := NpSt l.length) (fun x => [(0, .t (.sl full 3 l)), (3, pt 0), (4, pt 2), (5, ti x.i)]) (fun x => NH x.d) (fun x => l.length - x.i)
      (fun ex fr' H' => ∃ x : NpSt l.length, ex = .exit 0 ∧ fr' = [(2, .undef)] ∧ H' = NH x.d) ⟨0, ⟨[], 0⟩, Nat.zero_le _, ⟨Nat.le_refl _, by show 0 ≤ 4096; omega, by intro y hy; cases hy⟩⟩ ?_ ?_
    · rintro ⟨i, d, im, ok⟩
      dsimp only
      have hb := ok.big
      have hcl := Ns.c_length ok
      have hca := Ns.c_all ok
      refine sat_br (fun hi => ?_) (fun hi => ?_)
      · have hi : i < l.length := by have := of_decide_eq_true hi; omega
        obtain ⟨x, hx, hxd⟩ := trd_get hl hi
        obtain ⟨a, n, f, ys, rfl, hy, hya⟩ := act_of hxd
        (conv => arg 3; whnf); repeat (first | ((with_reducible refine sat_brT ?_ ?_); rfl; conv => arg 3; whnf) | ((with_reducible refine sat_brF ?_ ?_); rfl; conv => arg 3; whnf) | ((with_reducible refine sat_eqv ?_ ?_); rfl; conv => arg 3; whnf))
        refine sat_idx _ (by simp) (by simpa using hx) ?_
        (conv => arg 3; whnf); repeat (first | ((with_reducible refine sat_brT ?_ ?_); rfl; conv => arg 3; whnf) | ((with_reducible refine sat_brF ?_ ?_); rfl; conv => arg 3; whnf) | ((with_reducible refine sat_eqv ?_ ?_); rfl; conv => arg 3; whnf))
        refine sat_br (fun h0 => ?_) (fun h0 => ?_)
        · -- 0
          (conv => arg 3; whnf); repeat (first | ((with_reducible refine sat_brT ?_ ?_); rfl; conv => arg 3; whnf) | ((with_reducible refine sat_brF ?_ ?_); rfl; conv => arg 3; whnf) | ((with_reducible refine sat_eqv ?_ ?_); rfl; conv => arg 3; whnf))
          refine sat_asrt (by simp [roomy]; omega) ?_
          (conv => arg 3; whnf); repeat (first | ((with_reducible refine sat_brT ?_ ?_); rfl; conv => arg 3; whnf) | ((with_reducible refine sat_brF ?_ ?_); rfl; conv => arg 3; whnf) | ((with_reducible refine sat_eqv ?_ ?_); rfl; conv => arg 3; whnf))
          refine sat_call (Ns.send d ok ((ys.drop 0).take ys.length) (by simp; omega)) ?_
          rintro r H' ⟨rfl, rfl⟩
          rw [List.drop_zero, List.take_length]
          (conv => arg 3; whnf); repeat (first | ((with_reducible refine sat_brT ?_ ?_); rfl; conv => arg 3; whnf) | ((with_reducible refine sat_brF ?_ ?_); rfl; conv => arg 3; whnf) | ((with_reducible refine sat_eqv ?_ ?_); rfl; conv => arg 3; whnf))
          refine sat_call (r_send d.c (by omega) f ys (by omega)) ?_
          rintro r H' ⟨rfl, rfl⟩
          obtain ⟨s1, s2, s3⟩ := sim_send ok hya
          generalize Ns.Nt.send d ys = p at s1 s2 s3 ⊢
          generalize Rn.send d.c ys = q at s1 s3 ⊢
          obtain ⟨d1, c⟩ := p
          obtain ⟨L1, c'⟩ := q
          dsimp only at s1 s2 s3
          subst s1
          subst s3
          (conv => arg 3; whnf); repeat (first | ((with_reducible refine sat_brT ?_ ?_); rfl; conv => arg 3; whnf) | ((with_reducible refine sat_brF ?_ ?_); rfl; conv => arg 3; whnf) | ((with_reducible refine sat_eqv ?_ ?_); rfl; conv => arg 3; whnf))
          refine sat_loopOf mkX_ops (σ := SpS ys.length) (fun x => [(0, .t (.sl full 3 l)), (3, pt 0), (4, pt 2), (5, ti i), (7, tb (c == c)), (8, .sl 4 0 [] 0 ys.length none), (11, ti x.i)]) (fun x => NH d1 ++ [.row 1 x.xs]) (fun x => ys.length - x.i)
            (fun ex fr' H' => ex = .exit 3 ∧ fr' = [(0, .t (.sl full 3 l)), (3, pt 0), (4, pt 2), (5, ti i), (7, tb (c == c))] ∧ ∃ xs, H' = NH d1 ++ [.row 1 xs]) ⟨0, ys, rfl, hya⟩ ?_ ?_
          · rintro ⟨k, xs, xl, xb⟩
            dsimp only
            refine sat_br (fun hk => ?_) (fun hk => ?_)
            · have hk : k < ys.length := by have := of_decide_eq_true hk; omega
              (conv => arg 3; whnf); repeat (first | ((with_reducible refine sat_brT ?_ ?_); rfl; conv => arg 3; whnf) | ((with_reducible refine sat_brF ?_ ?_); rfl; conv => arg 3; whnf) | ((with_reducible refine sat_eqv ?_ ?_); rfl; conv => arg 3; whnf))
              refine sat_asrt (decide_eq_true (by omega)) ?_
              obtain ⟨u, hu⟩ := xb.get (show k < xs.length by omega)
              refine sat_idx (.str u) (by simp) (by simpa using hu) ?_
              (conv => arg 3; whnf); repeat (first | ((with_reducible refine sat_brT ?_ ?_); rfl; conv => arg 3; whnf) | ((with_reducible refine sat_brF ?_ ?_); rfl; conv => arg 3; whnf) | ((with_reducible refine sat_eqv ?_ ?_); rfl; conv => arg 3; whnf))
              refine sat_rng (wrap64 (by omega) (by omega)) ?_
              exact sat_ret ⟨⟨k + 1, xs.set k (.str ⟨#[111, 118, 101, 114]⟩), by rw [List.length_set]; exact xl, xb.set _ _⟩, rfl, by rw [Int.toNat_natCast, Nat.zero_add]; rfl, by show ys.length - (k + 1) < ys.length - k; omega⟩
            · refine sat_ret ?_
              exact ⟨rfl, rfl, xs, rfl⟩
          · rintro ex fr' H' ⟨rfl, rfl, xs, rfl⟩
            (conv => arg 3; whnf); repeat (first | ((with_reducible refine sat_brT ?_ ?_); rfl; conv => arg 3; whnf) | ((with_reducible refine sat_brF ?_ ?_); rfl; conv => arg 3; whnf) | ((with_reducible refine sat_eqv ?_ ?_); rfl; conv => arg 3; whnf))
            refine sat_brF (by simp) ?_
            (conv => arg 3; whnf); repeat (first | ((with_reducible refine sat_brT ?_ ?_); rfl; conv => arg 3; whnf) | ((with_reducible refine sat_brF ?_ ?_); rfl; conv => arg 3; whnf) | ((with_reducible refine sat_eqv ?_ ?_); rfl; conv => arg 3; whnf))
            refine sat_call (k_alike d1 s2) ?_
            rintro r H' ⟨rfl, rfl⟩
            (conv => arg 3; whnf); repeat (first | ((with_reducible refine sat_brT ?_ ?_); rfl; conv => arg 3; whnf) | ((with_reducible refine sat_brF ?_ ?_); rfl; conv => arg 3; whnf) | ((with_reducible refine sat_eqv ?_ ?_); rfl; conv => arg 3; whnf))
            refine sat_rng (wrap64 (by omega) (by omega)) ?_
            exact sat_ret ⟨⟨i + 1, d1, hi, s2⟩, rfl, rfl, by show l.length - (i + 1) < l.length - i; omega⟩
        · (conv => arg 3; whnf); repeat (first | ((with_reducible refine sat_brT ?_ ?_); rfl; conv => arg 3; whnf) | ((with_reducible refine sat_brF ?_ ?_); rfl; conv => arg 3; whnf) | ((with_reducible refine sat_eqv ?_ ?_); rfl; conv => arg 3; whnf))
          refine sat_br (fun h1 => ?_) (fun h1 => ?_)
          · -- 1
            have he := has_eq ok n
            cases hh : Ns.Nt.has d n with
            | false =>
              (conv => arg 3; whnf); repeat (first | ((with_reducible refine sat_brT ?_ ?_); rfl; conv => arg 3; whnf) | ((with_reducible refine sat_brF ?_ ?_); rfl; conv => arg 3; whnf) | ((with_reducible refine sat_eqv ?_ ?_); rfl; conv => arg 3; whnf))
              refine sat_call (Ns.deliver_no d n hh) ?_
              rintro r H' ⟨rfl, rfl⟩
              (conv => arg 3; whnf); repeat (first | ((with_reducible refine sat_brT ?_ ?_); rfl; conv => arg 3; whnf) | ((with_reducible refine sat_brF ?_ ?_); rfl; conv => arg 3; whnf) | ((with_reducible refine sat_eqv ?_ ?_); rfl; conv => arg 3; whnf))
              refine sat_call (r_deliver d.c hca (by omega) n) ?_
              rintro r H' (⟨h1, rfl, rfl⟩ | ⟨h1, _⟩)
              rotate_left
              · rw [he, hh] at h1; cases h1
              (conv => arg 3; whnf); repeat (first | ((with_reducible refine sat_brT ?_ ?_); rfl; conv => arg 3; whnf) | ((with_reducible refine sat_brF ?_ ?_); rfl; conv => arg 3; whnf) | ((with_reducible refine sat_eqv ?_ ?_); rfl; conv => arg 3; whnf))
              repeat (first | (refine sat_brT (by simp; done) ?_; (conv => arg 3; whnf); repeat (first | ((with_reducible refine sat_brT ?_ ?_); rfl; conv => arg 3; whnf) | ((with_reducible refine sat_brF ?_ ?_); rfl; conv => arg 3; whnf) | ((with_reducible refine sat_eqv ?_ ?_); rfl; conv => arg 3; whnf))) | (refine sat_brF (by simp; done) ?_; (conv => arg 3; whnf); repeat (first | ((with_reducible refine sat_brT ?_ ?_); rfl; conv => arg 3; whnf) | ((with_reducible refine sat_brF ?_ ?_); rfl; conv => arg 3; whnf) | ((with_reducible refine sat_eqv ?_ ?_); rfl; conv => arg 3; whnf))))
              refine sat_call (k_alike d ok) ?_
              rintro r H' ⟨rfl, rfl⟩
              (conv => arg 3; whnf); repeat (first | ((with_reducible refine sat_brT ?_ ?_); rfl; conv => arg 3; whnf) | ((with_reducible refine sat_brF ?_ ?_); rfl; conv => arg 3; whnf) | ((with_reducible refine sat_eqv ?_ ?_); rfl; conv => arg 3; whnf))
              refine sat_rng (wrap64 (by omega) (by omega)) ?_
              exact sat_ret ⟨⟨i + 1, d, hi, ok⟩, rfl, rfl, by show l.length - (i + 1) < l.length - i; omega⟩
            | true =>
              obtain ⟨v, hv, hv'⟩ := Ns.has_get ok hh
              (conv => arg 3; whnf); repeat (first | ((with_reducible refine sat_brT ?_ ?_); rfl; conv => arg 3; whnf) | ((with_reducible refine sat_brF ?_ ?_); rfl; conv => arg 3; whnf) | ((with_reducible refine sat_eqv ?_ ?_); rfl; conv => arg 3; whnf))
              refine sat_call (Ns.deliver_yes d ok n hh v hv) ?_
              rintro r H' ⟨zs, m, hw, rfl, rfl⟩
              (conv => arg 3; whnf); repeat (first | ((with_reducible refine sat_brT ?_ ?_); rfl; conv => arg 3; whnf) | ((with_reducible refine sat_brF ?_ ?_); rfl; conv => arg 3; whnf) | ((with_reducible refine sat_eqv ?_ ?_); rfl; conv => arg 3; whnf))
              refine sat_call (r_deliver d.c hca (by omega) n) ?_
              rintro r H' (⟨h1, _⟩ | ⟨h1, s, hs, rfl, rfl⟩)
              · rw [he, hh] at h1; cases h1
              obtain ⟨ok1, e1⟩ := Ns.without_c ok hw
              rw [hv'] at hs
              obtain rfl := Tr.str.inj (Option.some.inj hs)
              rw [← e1]
              (conv => arg 3; whnf); repeat (first | ((with_reducible refine sat_brT ?_ ?_); rfl; conv => arg 3; whnf) | ((with_reducible refine sat_brF ?_ ?_); rfl; conv => arg 3; whnf) | ((with_reducible refine sat_eqv ?_ ?_); rfl; conv => arg 3; whnf))
              repeat (first | (refine sat_brT (by simp; done) ?_; (conv => arg 3; whnf); repeat (first | ((with_reducible refine sat_brT ?_ ?_); rfl; conv => arg 3; whnf) | ((with_reducible refine sat_brF ?_ ?_); rfl; conv => arg 3; whnf) | ((with_reducible refine sat_eqv ?_ ?_); rfl; conv => arg 3; whnf))) | (refine sat_brF (by simp; done) ?_; (conv => arg 3; whnf); repeat (first | ((with_reducible refine sat_brT ?_ ?_); rfl; conv => arg 3; whnf) | ((with_reducible refine sat_brF ?_ ?_); rfl; conv => arg 3; whnf) | ((with_reducible refine sat_eqv ?_ ?_); rfl; conv => arg 3; whnf))))
              refine sat_call (k_alike ⟨zs, m⟩ ok1) ?_
              rintro r H' ⟨rfl, rfl⟩
              (conv => arg 3; whnf); repeat (first | ((with_reducible refine sat_brT ?_ ?_); rfl; conv => arg 3; whnf) | ((with_reducible refine sat_brF ?_ ?_); rfl; conv => arg 3; whnf) | ((with_reducible refine sat_eqv ?_ ?_); rfl; conv => arg 3; whnf))
              refine sat_rng (wrap64 (by omega) (by omega)) ?_
              exact sat_ret ⟨⟨i + 1, ⟨zs, m⟩, hi, ok1⟩, rfl, rfl, by show l.length - (i + 1) < l.length - i; omega⟩
          · (conv => arg 3; whnf); repeat (first | ((with_reducible refine sat_brT ?_ ?_); rfl; conv => arg 3; whnf) | ((with_reducible refine sat_brF ?_ ?_); rfl; conv => arg 3; whnf) | ((with_reducible refine sat_eqv ?_ ?_); rfl; conv => arg 3; whnf))
            refine sat_br (fun h2 => ?_) (fun h2 => ?_)
            · -- 2
              have he := has_eq ok n
              cases hh : Ns.Nt.has d n with
              | false =>
                (conv => arg 3; whnf); repeat (first | ((with_reducible refine sat_brT ?_ ?_); rfl; conv => arg 3; whnf) | ((with_reducible refine sat_brF ?_ ?_); rfl; conv => arg 3; whnf) | ((with_reducible refine sat_eqv ?_ ?_); rfl; conv => arg 3; whnf))
                refine sat_call (Ns.drop_no d n hh) ?_
                rintro r H' ⟨rfl, rfl⟩
                (conv => arg 3; whnf); repeat (first | ((with_reducible refine sat_brT ?_ ?_); rfl; conv => arg 3; whnf) | ((with_reducible refine sat_brF ?_ ?_); rfl; conv => arg 3; whnf) | ((with_reducible refine sat_eqv ?_ ?_); rfl; conv => arg 3; whnf))
                refine sat_call (r_deliver d.c hca (by omega) n) ?_
                rintro r H' (⟨h1, rfl, rfl⟩ | ⟨h1, _⟩)
                rotate_left
                · rw [he, hh] at h1; cases h1
                (conv => arg 3; whnf); repeat (first | ((with_reducible refine sat_brT ?_ ?_); rfl; conv => arg 3; whnf) | ((with_reducible refine sat_brF ?_ ?_); rfl; conv => arg 3; whnf) | ((with_reducible refine sat_eqv ?_ ?_); rfl; conv => arg 3; whnf))
                repeat (first | (refine sat_brT (by simp; done) ?_; (conv => arg 3; whnf); repeat (first | ((with_reducible refine sat_brT ?_ ?_); rfl; conv => arg 3; whnf) | ((with_reducible refine sat_brF ?_ ?_); rfl; conv => arg 3; whnf) | ((with_reducible refine sat_eqv ?_ ?_); rfl; conv => arg 3; whnf))) | (refine sat_brF (by simp; done) ?_; (conv => arg 3; whnf); repeat (first | ((with_reducible refine sat_brT ?_ ?_); rfl; conv => arg 3; whnf) | ((with_reducible refine sat_brF ?_ ?_); rfl; conv => arg 3; whnf) | ((with_reducible refine sat_eqv ?_ ?_); rfl; conv => arg 3; whnf))))
                refine sat_call (k_alike d ok) ?_
                rintro r H' ⟨rfl, rfl⟩
                (conv => arg 3; whnf); repeat (first | ((with_reducible refine sat_brT ?_ ?_); rfl; conv => arg 3; whnf) | ((with_reducible refine sat_brF ?_ ?_); rfl; conv => arg 3; whnf) | ((with_reducible refine sat_eqv ?_ ?_); rfl; conv => arg 3; whnf))
                refine sat_rng (wrap64 (by omega) (by omega)) ?_
                exact sat_ret ⟨⟨i + 1, d, hi, ok⟩, rfl, rfl, by show l.length - (i + 1) < l.length - i; omega⟩
              | true =>
                obtain ⟨v, hv, hv'⟩ := Ns.has_get ok hh
                (conv => arg 3; whnf); repeat (first | ((with_reducible refine sat_brT ?_ ?_); rfl; conv => arg 3; whnf) | ((with_reducible refine sat_brF ?_ ?_); rfl; conv => arg 3; whnf) | ((with_reducible refine sat_eqv ?_ ?_); rfl; conv => arg 3; whnf))
                refine sat_call (Ns.drop_yes d ok n hh v hv) ?_
                rintro r H' ⟨zs, m, hw, rfl, rfl⟩
                (conv => arg 3; whnf); repeat (first | ((with_reducible refine sat_brT ?_ ?_); rfl; conv => arg 3; whnf) | ((with_reducible refine sat_brF ?_ ?_); rfl; conv => arg 3; whnf) | ((with_reducible refine sat_eqv ?_ ?_); rfl; conv => arg 3; whnf))
                refine sat_call (r_deliver d.c hca (by omega) n) ?_
                rintro r H' (⟨h1, _⟩ | ⟨h1, s, hs, rfl, rfl⟩)
                · rw [he, hh] at h1; cases h1
                obtain ⟨ok1, e1⟩ := Ns.without_c ok hw
                rw [hv'] at hs
                obtain rfl := Tr.str.inj (Option.some.inj hs)
                rw [← e1]
                (conv => arg 3; whnf); repeat (first | ((with_reducible refine sat_brT ?_ ?_); rfl; conv => arg 3; whnf) | ((with_reducible refine sat_brF ?_ ?_); rfl; conv => arg 3; whnf) | ((with_reducible refine sat_eqv ?_ ?_); rfl; conv => arg 3; whnf))
                repeat (first | (refine sat_brT (by simp; done) ?_; (conv => arg 3; whnf); repeat (first | ((with_reducible refine sat_brT ?_ ?_); rfl; conv => arg 3; whnf) | ((with_reducible refine sat_brF ?_ ?_); rfl; conv => arg 3; whnf) | ((with_reducible refine sat_eqv ?_ ?_); rfl; conv => arg 3; whnf))) | (refine sat_brF (by simp; done) ?_; (conv => arg 3; whnf); repeat (first | ((with_reducible refine sat_brT ?_ ?_); rfl; conv => arg 3; whnf) | ((with_reducible refine sat_brF ?_ ?_); rfl; conv => arg 3; whnf) | ((with_reducible refine sat_eqv ?_ ?_); rfl; conv => arg 3; whnf))))
                refine sat_call (k_alike ⟨zs, m⟩ ok1) ?_
                rintro r H' ⟨rfl, rfl⟩
                (conv => arg 3; whnf); repeat (first | ((with_reducible refine sat_brT ?_ ?_); rfl; conv => arg 3; whnf) | ((with_reducible refine sat_brF ?_ ?_); rfl; conv => arg 3; whnf) | ((with_reducible refine sat_eqv ?_ ?_); rfl; conv => arg 3; whnf))
                refine sat_rng (wrap64 (by omega) (by omega)) ?_
                exact sat_ret ⟨⟨i + 1, ⟨zs, m⟩, hi, ok1⟩, rfl, rfl, by show l.length - (i + 1) < l.length - i; omega⟩
            · (conv => arg 3; whnf); repeat (first | ((with_reducible refine sat_brT ?_ ?_); rfl; conv => arg 3; whnf) | ((with_reducible refine sat_brF ?_ ?_); rfl; conv => arg 3; whnf) | ((with_reducible refine sat_eqv ?_ ?_); rfl; conv => arg 3; whnf))
              refine sat_br (fun h3 => ?_) (fun h3 => ?_)
              · -- 3
                have he := has_eq ok n
                cases hh : Ns.Nt.has d n with
                | false =>
                  (conv => arg 3; whnf); repeat (first | ((with_reducible refine sat_brT ?_ ?_); rfl; conv => arg 3; whnf) | ((with_reducible refine sat_brF ?_ ?_); rfl; conv => arg 3; whnf) | ((with_reducible refine sat_eqv ?_ ?_); rfl; conv => arg 3; whnf))
                  refine sat_call (Ns.dup_no d n hh) ?_
                  rintro r H' ⟨rfl, rfl⟩
                  (conv => arg 3; whnf); repeat (first | ((with_reducible refine sat_brT ?_ ?_); rfl; conv => arg 3; whnf) | ((with_reducible refine sat_brF ?_ ?_); rfl; conv => arg 3; whnf) | ((with_reducible refine sat_eqv ?_ ?_); rfl; conv => arg 3; whnf))
                  refine sat_call (r_dup d.c (by omega) n) ?_
                  rintro r H' (⟨h1, rfl, rfl⟩ | ⟨h1, _⟩)
                  rotate_left
                  · rw [he, hh] at h1; cases h1
                  (conv => arg 3; whnf); repeat (first | ((with_reducible refine sat_brT ?_ ?_); rfl; conv => arg 3; whnf) | ((with_reducible refine sat_brF ?_ ?_); rfl; conv => arg 3; whnf) | ((with_reducible refine sat_eqv ?_ ?_); rfl; conv => arg 3; whnf))
                  repeat (first | (refine sat_brT (by simp; done) ?_; (conv => arg 3; whnf); repeat (first | ((with_reducible refine sat_brT ?_ ?_); rfl; conv => arg 3; whnf) | ((with_reducible refine sat_brF ?_ ?_); rfl; conv => arg 3; whnf) | ((with_reducible refine sat_eqv ?_ ?_); rfl; conv => arg 3; whnf))) | (refine sat_brF (by simp; done) ?_; (conv => arg 3; whnf); repeat (first | ((with_reducible refine sat_brT ?_ ?_); rfl; conv => arg 3; whnf) | ((with_reducible refine sat_brF ?_ ?_); rfl; conv => arg 3; whnf) | ((with_reducible refine sat_eqv ?_ ?_); rfl; conv => arg 3; whnf))))
                  refine sat_call (k_alike d ok) ?_
                  rintro r H' ⟨rfl, rfl⟩
                  (conv => arg 3; whnf); repeat (first | ((with_reducible refine sat_brT ?_ ?_); rfl; conv => arg 3; whnf) | ((with_reducible refine sat_brF ?_ ?_); rfl; conv => arg 3; whnf) | ((with_reducible refine sat_eqv ?_ ?_); rfl; conv => arg 3; whnf))
                  refine sat_rng (wrap64 (by omega) (by omega)) ?_
                  exact sat_ret ⟨⟨i + 1, d, hi, ok⟩, rfl, rfl, by show l.length - (i + 1) < l.length - i; omega⟩
                | true =>
                  obtain ⟨v, hv, hv'⟩ := Ns.has_get ok hh
                  (conv => arg 3; whnf); repeat (first | ((with_reducible refine sat_brT ?_ ?_); rfl; conv => arg 3; whnf) | ((with_reducible refine sat_brF ?_ ?_); rfl; conv => arg 3; whnf) | ((with_reducible refine sat_eqv ?_ ?_); rfl; conv => arg 3; whnf))
                  refine sat_call (Ns.dup_yes d ok n hh v hv) ?_
                  rintro r H' ⟨rfl, rfl⟩
                  (conv => arg 3; whnf); repeat (first | ((with_reducible refine sat_brT ?_ ?_); rfl; conv => arg 3; whnf) | ((with_reducible refine sat_brF ?_ ?_); rfl; conv => arg 3; whnf) | ((with_reducible refine sat_eqv ?_ ?_); rfl; conv => arg 3; whnf))
                  refine sat_call (r_dup d.c (by omega) n) ?_
                  rintro r H' (⟨h1, _⟩ | ⟨h1, y, hs, rfl, rfl⟩)
                  · rw [he, hh] at h1; cases h1
                  rw [hv'] at hs
                  obtain rfl := Option.some.inj hs
                  obtain ⟨s1, s2, s3⟩ := sim_send ok (ys := [.str v]) (by intro y hy; rw [List.mem_singleton] at hy; exact ⟨v, hy⟩)
                  generalize Ns.Nt.send d [.str v] = p at s1 s2 s3 ⊢
                  generalize Rn.send d.c [.str v] = q at s1 s3 ⊢
                  obtain ⟨d1, c⟩ := p
                  obtain ⟨L1, c'⟩ := q
                  dsimp only at s1 s2 s3
                  subst s1
                  subst s3
                  (conv => arg 3; whnf); repeat (first | ((with_reducible refine sat_brT ?_ ?_); rfl; conv => arg 3; whnf) | ((with_reducible refine sat_brF ?_ ?_); rfl; conv => arg 3; whnf) | ((with_reducible refine sat_eqv ?_ ?_); rfl; conv => arg 3; whnf))
                  refine sat_brF (by simp) ?_
                  (conv => arg 3; whnf); repeat (first | ((with_reducible refine sat_brT ?_ ?_); rfl; conv => arg 3; whnf) | ((with_reducible refine sat_brF ?_ ?_); rfl; conv => arg 3; whnf) | ((with_reducible refine sat_eqv ?_ ?_); rfl; conv => arg 3; whnf))
                  refine sat_call (k_alike d1 s2) ?_
                  rintro r H' ⟨rfl, rfl⟩
                  (conv => arg 3; whnf); repeat (first | ((with_reducible refine sat_brT ?_ ?_); rfl; conv => arg 3; whnf) | ((with_reducible refine sat_brF ?_ ?_); rfl; conv => arg 3; whnf) | ((with_reducible refine sat_eqv ?_ ?_); rfl; conv => arg 3; whnf))
                  refine sat_rng (wrap64 (by omega) (by omega)) ?_
                  exact sat_ret ⟨⟨i + 1, d1, hi, s2⟩, rfl, rfl, by show l.length - (i + 1) < l.length - i; omega⟩
              · (conv => arg 3; whnf); repeat (first | ((with_reducible refine sat_brT ?_ ?_); rfl; conv => arg 3; whnf) | ((with_reducible refine sat_brF ?_ ?_); rfl; conv => arg 3; whnf) | ((with_reducible refine sat_eqv ?_ ?_); rfl; conv => arg 3; whnf))
                refine sat_br (fun h4 => ?_) (fun h4 => ?_)
                · -- 4
                  have he := has_eq ok n
                  cases hh : Ns.Nt.has d n with
                  | false =>
                    (conv => arg 3; whnf); repeat (first | ((with_reducible refine sat_brT ?_ ?_); rfl; conv => arg 3; whnf) | ((with_reducible refine sat_brF ?_ ?_); rfl; conv => arg 3; whnf) | ((with_reducible refine sat_eqv ?_ ?_); rfl; conv => arg 3; whnf))
                    refine sat_call (Ns.at_no d n hh) ?_
                    rintro r H' ⟨rfl, rfl⟩
                    (conv => arg 3; whnf); repeat (first | ((with_reducible refine sat_brT ?_ ?_); rfl; conv => arg 3; whnf) | ((with_reducible refine sat_brF ?_ ?_); rfl; conv => arg 3; whnf) | ((with_reducible refine sat_eqv ?_ ?_); rfl; conv => arg 3; whnf))
                    refine sat_call (r_at d.c hca n) ?_
                    rintro r H' ⟨rfl, (⟨h1, rfl⟩ | ⟨h1, _⟩)⟩
                    rotate_left
                    · rw [he, hh] at h1; cases h1
                    (conv => arg 3; whnf); repeat (first | ((with_reducible refine sat_brT ?_ ?_); rfl; conv => arg 3; whnf) | ((with_reducible refine sat_brF ?_ ?_); rfl; conv => arg 3; whnf) | ((with_reducible refine sat_eqv ?_ ?_); rfl; conv => arg 3; whnf))
                    repeat (first | (refine sat_brT (by simp; done) ?_; (conv => arg 3; whnf); repeat (first | ((with_reducible refine sat_brT ?_ ?_); rfl; conv => arg 3; whnf) | ((with_reducible refine sat_brF ?_ ?_); rfl; conv => arg 3; whnf) | ((with_reducible refine sat_eqv ?_ ?_); rfl; conv => arg 3; whnf))) | (refine sat_brF (by simp; done) ?_; (conv => arg 3; whnf); repeat (first | ((with_reducible refine sat_brT ?_ ?_); rfl; conv => arg 3; whnf) | ((with_reducible refine sat_brF ?_ ?_); rfl; conv => arg 3; whnf) | ((with_reducible refine sat_eqv ?_ ?_); rfl; conv => arg 3; whnf))))
                    refine sat_call (k_alike d ok) ?_
                    rintro r H' ⟨rfl, rfl⟩
                    (conv => arg 3; whnf); repeat (first | ((with_reducible refine sat_brT ?_ ?_); rfl; conv => arg 3; whnf) | ((with_reducible refine sat_brF ?_ ?_); rfl; conv => arg 3; whnf) | ((with_reducible refine sat_eqv ?_ ?_); rfl; conv => arg 3; whnf))
                    refine sat_rng (wrap64 (by omega) (by omega)) ?_
                    exact sat_ret ⟨⟨i + 1, d, hi, ok⟩, rfl, rfl, by show l.length - (i + 1) < l.length - i; omega⟩
                  | true =>
                    obtain ⟨v, hv, hv'⟩ := Ns.has_get ok hh
                    (conv => arg 3; whnf); repeat (first | ((with_reducible refine sat_brT ?_ ?_); rfl; conv => arg 3; whnf) | ((with_reducible refine sat_brF ?_ ?_); rfl; conv => arg 3; whnf) | ((with_reducible refine sat_eqv ?_ ?_); rfl; conv => arg 3; whnf))
                    refine sat_call (Ns.at_yes d ok n hh v hv) ?_
                    rintro r H' ⟨rfl, rfl⟩
                    (conv => arg 3; whnf); repeat (first | ((with_reducible refine sat_brT ?_ ?_); rfl; conv => arg 3; whnf) | ((with_reducible refine sat_brF ?_ ?_); rfl; conv => arg 3; whnf) | ((with_reducible refine sat_eqv ?_ ?_); rfl; conv => arg 3; whnf))
                    refine sat_call (r_at d.c hca n) ?_
                    rintro r H' ⟨rfl, (⟨h1, _⟩ | ⟨h1, s, hs, rfl⟩)⟩
                    · rw [he, hh] at h1; cases h1
                    rw [hv'] at hs
                    obtain rfl := Tr.str.inj (Option.some.inj hs)
                    (conv => arg 3; whnf); repeat (first | ((with_reducible refine sat_brT ?_ ?_); rfl; conv => arg 3; whnf) | ((with_reducible refine sat_brF ?_ ?_); rfl; conv => arg 3; whnf) | ((with_reducible refine sat_eqv ?_ ?_); rfl; conv => arg 3; whnf))
                    repeat (first | (refine sat_brT (by simp; done) ?_; (conv => arg 3; whnf); repeat (first | ((with_reducible refine sat_brT ?_ ?_); rfl; conv => arg 3; whnf) | ((with_reducible refine sat_brF ?_ ?_); rfl; conv => arg 3; whnf) | ((with_reducible refine sat_eqv ?_ ?_); rfl; conv => arg 3; whnf))) | (refine sat_brF (by simp; done) ?_; (conv => arg 3; whnf); repeat (first | ((with_reducible refine sat_brT ?_ ?_); rfl; conv => arg 3; whnf) | ((with_reducible refine sat_brF ?_ ?_); rfl; conv => arg 3; whnf) | ((with_reducible refine sat_eqv ?_ ?_); rfl; conv => arg 3; whnf))))
                    refine sat_call (k_alike d ok) ?_
                    rintro r H' ⟨rfl, rfl⟩
                    (conv => arg 3; whnf); repeat (first | ((with_reducible refine sat_brT ?_ ?_); rfl; conv => arg 3; whnf) | ((with_reducible refine sat_brF ?_ ?_); rfl; conv => arg 3; whnf) | ((with_reducible refine sat_eqv ?_ ?_); rfl; conv => arg 3; whnf))
                    refine sat_rng (wrap64 (by omega) (by omega)) ?_
                    exact sat_ret ⟨⟨i + 1, d, hi, ok⟩, rfl, rfl, by show l.length - (i + 1) < l.length - i; omega⟩
                · (conv => arg 3; whnf); repeat (first | ((with_reducible refine sat_brT ?_ ?_); rfl; conv => arg 3; whnf) | ((with_reducible refine sat_brF ?_ ?_); rfl; conv => arg 3; whnf) | ((with_reducible refine sat_eqv ?_ ?_); rfl; conv => arg 3; whnf))
                  refine sat_br (fun h5 => ?_) (fun h5 => ?_)
                  · -- 5
                    (conv => arg 3; whnf); repeat (first | ((with_reducible refine sat_brT ?_ ?_); rfl; conv => arg 3; whnf) | ((with_reducible refine sat_brF ?_ ?_); rfl; conv => arg 3; whnf) | ((with_reducible refine sat_eqv ?_ ?_); rfl; conv => arg 3; whnf))
                    refine sat_call (k_keep d ok a n f ys) ?_
                    rintro r H' ⟨rfl, rfl⟩
                    (conv => arg 3; whnf); repeat (first | ((with_reducible refine sat_brT ?_ ?_); rfl; conv => arg 3; whnf) | ((with_reducible refine sat_brF ?_ ?_); rfl; conv => arg 3; whnf) | ((with_reducible refine sat_eqv ?_ ?_); rfl; conv => arg 3; whnf))
                    refine sat_call (r_keep d.c hca (by omega) n) ?_
                    rintro r H' ⟨rfl, rfl⟩
                    have hfl := List.length_filter_le (longer n) d.c
                    have ok1 : Ns.OK ⟨d.c.filter (longer n), (d.c.filter (longer n)).length⟩ := ⟨Nat.le_refl _, by dsimp only; omega, fun y hy => hca y (List.mem_filter.1 hy).1⟩
                    have e1 : Nt.c ⟨d.c.filter (longer n), (d.c.filter (longer n)).length⟩ = d.c.filter (longer n) := List.take_length
                    generalize d.c.filter (longer n) = F at ok1 e1 ⊢
                    have ka := k_alike ⟨F, F.length⟩ ok1
                    simp only [NH, NH', e1] at ka
                    (conv => arg 3; whnf); repeat (first | ((with_reducible refine sat_brT ?_ ?_); rfl; conv => arg 3; whnf) | ((with_reducible refine sat_brF ?_ ?_); rfl; conv => arg 3; whnf) | ((with_reducible refine sat_eqv ?_ ?_); rfl; conv => arg 3; whnf))
                    refine sat_brF (by simp) ?_
                    (conv => arg 3; whnf); repeat (first | ((with_reducible refine sat_brT ?_ ?_); rfl; conv => arg 3; whnf) | ((with_reducible refine sat_brF ?_ ?_); rfl; conv => arg 3; whnf) | ((with_reducible refine sat_eqv ?_ ?_); rfl; conv => arg 3; whnf))
                    refine sat_call ka ?_
                    rintro r H' ⟨rfl, rfl⟩
                    (conv => arg 3; whnf); repeat (first | ((with_reducible refine sat_brT ?_ ?_); rfl; conv => arg 3; whnf) | ((with_reducible refine sat_brF ?_ ?_); rfl; conv => arg 3; whnf) | ((with_reducible refine sat_eqv ?_ ?_); rfl; conv => arg 3; whnf))
                    refine sat_rng (wrap64 (by omega) (by omega)) ?_
                    exact sat_ret ⟨⟨i + 1, ⟨F, F.length⟩, hi, ok1⟩, rfl, (by simp only [NH, e1]), by show l.length - (i + 1) < l.length - i; omega⟩
                  · (conv => arg 3; whnf); repeat (first | ((with_reducible refine sat_brT ?_ ?_); rfl; conv => arg 3; whnf) | ((with_reducible refine sat_brF ?_ ?_); rfl; conv => arg 3; whnf) | ((with_reducible refine sat_eqv ?_ ?_); rfl; conv => arg 3; whnf))
                    refine sat_br (fun h6 => ?_) (fun h6 => ?_)
                    · -- 6
                      (conv => arg 3; whnf); repeat (first | ((with_reducible refine sat_brT ?_ ?_); rfl; conv => arg 3; whnf) | ((with_reducible refine sat_brF ?_ ?_); rfl; conv => arg 3; whnf) | ((with_reducible refine sat_eqv ?_ ?_); rfl; conv => arg 3; whnf))
                      refine sat_call (k_copy d ok) ?_
                      rintro r H' ⟨rfl, rfl⟩
                      (conv => arg 3; whnf); repeat (first | ((with_reducible refine sat_brT ?_ ?_); rfl; conv => arg 3; whnf) | ((with_reducible refine sat_brF ?_ ?_); rfl; conv => arg 3; whnf) | ((with_reducible refine sat_eqv ?_ ?_); rfl; conv => arg 3; whnf))
                      refine sat_call (Ns.send d ok [.str ⟨#[109, 111, 114, 101]⟩] (by simp)) ?_
                      rintro r H' ⟨rfl, rfl⟩
                      obtain ⟨s1, s2, s3⟩ := sim_send ok (ys := [.str ⟨#[109, 111, 114, 101]⟩]) (by intro y hy; rw [List.mem_singleton] at hy; exact ⟨_, hy⟩)
                      generalize Ns.Nt.send d [.str ⟨#[109, 111, 114, 101]⟩] = p at s1 s2 s3 ⊢
                      obtain ⟨d1, c⟩ := p
                      dsimp only at s1 s2 s3
                      have ok1 : Ns.OK ⟨d.c, d.c.length⟩ := ⟨Nat.le_refl _, by dsimp only; omega, hca⟩
                      have e1 : Nt.c ⟨d.c, d.c.length⟩ = d.c := List.take_length
                      cases hh : Ns.Nt.has d1 0 with
                      | false =>
                        (conv => arg 3; whnf); repeat (first | ((with_reducible refine sat_brT ?_ ?_); rfl; conv => arg 3; whnf) | ((with_reducible refine sat_brF ?_ ?_); rfl; conv => arg 3; whnf) | ((with_reducible refine sat_eqv ?_ ?_); rfl; conv => arg 3; whnf))
                        refine sat_call (Ns.drop_no d1 0 hh) ?_
                        rintro r H' ⟨rfl, rfl⟩
                        have ka := k_alike ⟨d.c, d.c.length⟩ ok1
                        simp only [NH, NH', e1] at ka
                        (conv => arg 3; whnf); repeat (first | ((with_reducible refine sat_brT ?_ ?_); rfl; conv => arg 3; whnf) | ((with_reducible refine sat_brF ?_ ?_); rfl; conv => arg 3; whnf) | ((with_reducible refine sat_eqv ?_ ?_); rfl; conv => arg 3; whnf))
                        refine sat_call ka ?_
                        rintro r H' ⟨rfl, rfl⟩
                        (conv => arg 3; whnf); repeat (first | ((with_reducible refine sat_brT ?_ ?_); rfl; conv => arg 3; whnf) | ((with_reducible refine sat_brF ?_ ?_); rfl; conv => arg 3; whnf) | ((with_reducible refine sat_eqv ?_ ?_); rfl; conv => arg 3; whnf))
                        refine sat_rng (wrap64 (by omega) (by omega)) ?_
                        exact sat_ret ⟨⟨i + 1, ⟨d.c, d.c.length⟩, hi, ok1⟩, rfl, (by simp only [NH, e1]), by show l.length - (i + 1) < l.length - i; omega⟩
                      | true =>
                        obtain ⟨v, hv, hv'⟩ := Ns.has_get s2 hh
                        (conv => arg 3; whnf); repeat (first | ((with_reducible refine sat_brT ?_ ?_); rfl; conv => arg 3; whnf) | ((with_reducible refine sat_brF ?_ ?_); rfl; conv => arg 3; whnf) | ((with_reducible refine sat_eqv ?_ ?_); rfl; conv => arg 3; whnf))
                        refine sat_call (Ns.drop_yes d1 s2 0 hh v hv) ?_
                        rintro r H' ⟨zs, m, hw, rfl, rfl⟩
                        have ka := k_alike ⟨d.c, d.c.length⟩ ok1
                        simp only [NH, NH', e1] at ka
                        (conv => arg 3; whnf); repeat (first | ((with_reducible refine sat_brT ?_ ?_); rfl; conv => arg 3; whnf) | ((with_reducible refine sat_brF ?_ ?_); rfl; conv => arg 3; whnf) | ((with_reducible refine sat_eqv ?_ ?_); rfl; conv => arg 3; whnf))
                        refine sat_call ka ?_
                        rintro r H' ⟨rfl, rfl⟩
                        (conv => arg 3; whnf); repeat (first | ((with_reducible refine sat_brT ?_ ?_); rfl; conv => arg 3; whnf) | ((with_reducible refine sat_brF ?_ ?_); rfl; conv => arg 3; whnf) | ((with_reducible refine sat_eqv ?_ ?_); rfl; conv => arg 3; whnf))
                        refine sat_rng (wrap64 (by omega) (by omega)) ?_
                        exact sat_ret ⟨⟨i + 1, ⟨d.c, d.c.length⟩, hi, ok1⟩, rfl, (by simp only [NH, e1]), by show l.length - (i + 1) < l.length - i; omega⟩
                    · -- nothing
                      (conv => arg 3; whnf); repeat (first | ((with_reducible refine sat_brT ?_ ?_); rfl; conv => arg 3; whnf) | ((with_reducible refine sat_brF ?_ ?_); rfl; conv => arg 3; whnf) | ((with_reducible refine sat_eqv ?_ ?_); rfl; conv => arg 3; whnf))
                      refine sat_call (k_alike d ok) ?_
                      rintro r H' ⟨rfl, rfl⟩
                      (conv => arg 3; whnf); repeat (first | ((with_reducible refine sat_brT ?_ ?_); rfl; conv => arg 3; whnf) | ((with_reducible refine sat_brF ?_ ?_); rfl; conv => arg 3; whnf) | ((with_reducible refine sat_eqv ?_ ?_); rfl; conv => arg 3; whnf))
                      refine sat_rng (wrap64 (by omega) (by omega)) ?_
                      exact sat_ret ⟨⟨i + 1, d, hi, ok⟩, rfl, rfl, by show l.length - (i + 1) < l.length - i; omega⟩
      · refine sat_ret ?_
        exact ⟨⟨i, d, im, ok⟩, rfl, rfl, rfl⟩
    · rintro ex fr' H' ⟨x, rfl, rfl, rfl⟩
      (conv => arg 3; whnf); repeat (first | ((with_reducible refine sat_brT ?_ ?_); rfl; conv => arg 3; whnf) | ((with_reducible refine sat_brF ?_ ?_); rfl; conv => arg 3; whnf) | ((with_reducible refine sat_eqv ?_ ?_); rfl; conv => arg 3; whnf))
      refine sat_call k_wakes ?_
      rintro r H' ⟨rfl, rfl⟩
      (conv => arg 3; whnf); repeat (first | ((with_reducible refine sat_brT ?_ ?_); rfl; conv => arg 3; whnf) | ((with_reducible refine sat_brF ?_ ?_); rfl; conv => arg 3; whnf) | ((with_reducible refine sat_eqv ?_ ?_); rfl; conv => arg 3; whnf))
      exact sat_ret rfl
end Stk
