/- NetCounts: the law's contract. -/
import Derived.Test.YtkkgpjklcpnicaaNi
import Derived.Test.YtkkgpjklcpnicaaWk
namespace Stk
open Go
set_option maxRecDepth 100000
set_option linter.unusedSimpArgs false
set_option linter.unusedVariables false
set_option maxHeartbeats 4000000
def isv (x : Int) : Tr → Bool
  | .int _ v => v == x
  | _ => false
def tcnt (x : Int) (xs : List Tr) : Nat := (xs.filter (isv x)).length
theorem tcnt_app (x : Int) (xs ys : List Tr) : tcnt x (xs ++ ys) = tcnt x xs + tcnt x ys := by simp [tcnt]
theorem tcnt_cons (x : Int) (y : Tr) (xs : List Tr) : tcnt x (y :: xs) = tcnt x [y] + tcnt x xs := tcnt_app x [y] xs
theorem tcnt_erase (x : Int) : ∀ {xs : List Tr} {i : Nat} {y : Tr}, xs[i]? = some y → tcnt x (xs.eraseIdx i) + tcnt x [y] = tcnt x xs
  | [], i, y, h => by simp at h
  | z :: zs, 0, y, h => by
    simp at h; subst h
    rw [List.eraseIdx_cons_zero, tcnt_cons x z zs]; omega
  | z :: zs, i + 1, y, h => by
    have := tcnt_erase x (xs := zs) (i := i) (y := y) (by simpa using h)
    rw [List.eraseIdx_cons_succ, tcnt_cons x z, tcnt_cons x z zs]; omega
theorem tcnt_le (x : Int) (xs : List Tr) : tcnt x xs ≤ xs.length := List.length_filter_le _ _
structure TiSt (xs : List Tr) where
  i : Nat
  le : i ≤ xs.length
theorem k_times (xs : List Tr) (x : Int) (ha : Ni.All xs) (hl : xs.length ≤ 100000) : ACalls PP GG F.law27_times [.bz 1 xs, ti x] [] fun r H' => r = ti (tcnt x xs) ∧ H' = [] := by
  refine K.law27_times.callsQ rfl ?_
  (conv => arg 3; whnf); repeat (first | ((with_reducible refine sat_brT ?_ ?_); rfl; conv => arg 3; whnf) | ((with_reducible refine sat_brF ?_ ?_); rfl; conv => arg 3; whnf) | ((with_reducible refine sat_eqv ?_ ?_); rfl; conv => arg 3; whnf))
  refine sat_loopOf mkX_ops (σ := TiSt xs) (fun s => [(0, .bz 1 xs), (1, ti x), (5, ti (tcnt x (xs.take s.i))), (6, ti s.i)]) (fun _ => []) (fun s => xs.length - s.i)
    (fun ex fr' H' => ex = .exit 0 ∧ fr' = [(5, ti (tcnt x xs))] ∧ H' = []) ⟨0, Nat.zero_le _⟩ ?_ ?_
  · rintro ⟨i, hi⟩
    dsimp only
    refine sat_br (fun h => ?_) (fun h => ?_)
    · have h : i < xs.length := by have := of_decide_eq_true h; omega
      obtain ⟨v, hv⟩ := ha.get h
      have hc := tcnt_le x (xs.take i)
      have hs : xs.take (i + 1) = xs.take i ++ [.int .i64 v] := by rw [List.take_add_one, hv]; rfl
      have hlt : (xs.take i).length ≤ 100000 := by simp; omega
      (conv => arg 3; whnf); repeat (first | ((with_reducible refine sat_brT ?_ ?_); rfl; conv => arg 3; whnf) | ((with_reducible refine sat_brF ?_ ?_); rfl; conv => arg 3; whnf) | ((with_reducible refine sat_eqv ?_ ?_); rfl; conv => arg 3; whnf) | ((with_reducible refine sat_idx (.int .i64 v) ?_ ?_ ?_); (first | omega | simp); (simpa using hv); conv => arg 3; whnf) | ((with_reducible refine sat_rng ?_ ?_); (exact wrap64 (by omega) (by omega)); conv => arg 3; whnf))
      refine sat_br (fun h2 => ?_) (fun h2 => ?_)
      · have h2 : v = x := by simpa using h2
        (conv => arg 3; whnf); repeat (first | ((with_reducible refine sat_brT ?_ ?_); rfl; conv => arg 3; whnf) | ((with_reducible refine sat_brF ?_ ?_); rfl; conv => arg 3; whnf) | ((with_reducible refine sat_eqv ?_ ?_); rfl; conv => arg 3; whnf))
        refine sat_rng (wrap64 (by omega) (by omega)) ?_
        (conv => arg 3; whnf); repeat (first | ((with_reducible refine sat_brT ?_ ?_); rfl; conv => arg 3; whnf) | ((with_reducible refine sat_brF ?_ ?_); rfl; conv => arg 3; whnf) | ((with_reducible refine sat_eqv ?_ ?_); rfl; conv => arg 3; whnf))
        refine sat_rng (wrap64 (by omega) (by omega)) ?_
        refine sat_ret ⟨⟨i + 1, h⟩, ?_, rfl, by show xs.length - (i + 1) < xs.length - i; omega⟩
        have : tcnt x (xs.take (i + 1)) = tcnt x (xs.take i) + 1 := by rw [hs, tcnt_app]; simp [tcnt, isv, h2]
        simp [zipFr, this]
      · have h2 : ¬ v = x := by simpa using h2
        (conv => arg 3; whnf); repeat (first | ((with_reducible refine sat_brT ?_ ?_); rfl; conv => arg 3; whnf) | ((with_reducible refine sat_brF ?_ ?_); rfl; conv => arg 3; whnf) | ((with_reducible refine sat_eqv ?_ ?_); rfl; conv => arg 3; whnf))
        refine sat_rng (wrap64 (by omega) (by omega)) ?_
        refine sat_ret ⟨⟨i + 1, h⟩, ?_, rfl, by show xs.length - (i + 1) < xs.length - i; omega⟩
        have : tcnt x (xs.take (i + 1)) = tcnt x (xs.take i) := by rw [hs, tcnt_app]; simp [tcnt, isv, h2]
        simp [zipFr, this]
    · have h : ¬ i < xs.length := by have := of_decide_eq_false h; omega
      refine sat_ret ⟨rfl, ?_, rfl⟩
      rw [show xs.take i = xs from List.take_of_length_le (by omega)]
      rfl
  · rintro ex fr' H' ⟨rfl, rfl, rfl⟩
    (conv => arg 3; whnf); repeat (first | ((with_reducible refine sat_brT ?_ ?_); rfl; conv => arg 3; whnf) | ((with_reducible refine sat_brF ?_ ?_); rfl; conv => arg 3; whnf) | ((with_reducible refine sat_eqv ?_ ?_); rfl; conv => arg 3; whnf))
    exact sat_ret ⟨rfl, rfl⟩
/-- What the law's loop knows: what is there, what was got, what was doubled. -/
structure NcInv (T : List Tr) (tw : Bool) (i : Nat) (d : Nt) (G M : List Tr) : Prop where
  ok : Ni.OK d
  g : Ni.All G
  m : Ni.All M
  cnt : ∀ x, tcnt x G + tcnt x d.c = tcnt x T + tcnt x M
  len : G.length + d.c.length = T.length + M.length
  gl : G.length ≤ i
  ml : M.length ≤ i
  sub : tw = false → d.c.Sublist T ∧ M = []
structure NcSt (T : List Tr) (tw : Bool) (m : Nat) where
  i : Nat
  d : Nt
  G : List Tr
  M : List Tr
  im : i ≤ m
  inv : NcInv T tw i d G M
theorem nc_dup {T : List Tr} {tw : Bool} {i : Nat} {d d' : Nt} {G M : List Tr} (h : NcInv T tw i d G M) (htw : tw = true) (v : Int) (ok : Ni.OK d') (hc : d'.c = d.c ++ [.int .i64 v]) : NcInv T tw (i + 1) d' G (M ++ [.int .i64 v]) := by
  refine ⟨ok, h.g, h.m.append (by intro y hy; simp at hy; exact ⟨v, hy⟩), fun x => ?_, ?_, by have := h.gl; omega, by have := h.ml; simp; omega, fun e => by rw [htw] at e; cases e⟩
  · have := h.cnt x
    rw [hc, tcnt_app, tcnt_app]; omega
  · have := h.len
    rw [hc]; simp; omega
theorem nc_take {T : List Tr} {tw : Bool} {i : Nat} {d d' : Nt} {G M : List Tr} (h : NcInv T tw i d G M) (v : Int) (k : Nat) (hv : d.c[k]? = some (.int .i64 v)) (ok : Ni.OK d') (hc : d'.c = d.c.eraseIdx k) : NcInv T tw (i + 1) d' (G ++ [.int .i64 v]) M := by
  have hk : k < d.c.length := by
    rcases Nat.lt_or_ge k d.c.length with h | h
    · exact h
    · rw [List.getElem?_eq_none h] at hv; cases hv
  refine ⟨ok, h.g.append (by intro y hy; simp at hy; exact ⟨v, hy⟩), h.m, fun x => ?_, ?_, by have := h.gl; simp; omega, by have := h.ml; omega, fun e => ?_⟩
  · have := h.cnt x
    have := tcnt_erase x hv
    rw [hc, tcnt_app]; omega
  · have := h.len
    rw [hc, List.length_eraseIdx, if_pos hk]; simp; omega
  · obtain ⟨s1, s2⟩ := h.sub e
    exact ⟨by rw [hc]; exact (List.eraseIdx_sublist _ _).trans s1, s2⟩
structure L2St (m : Nat) where
  i : Nat
  im : i ≤ m
structure L3St (T C : List Tr) where
  i : Nat
  k : Nat
  ic : i ≤ C.length
  kt : k ≤ T.length
  sub : (C.drop i).Sublist (T.drop k)
structure L4St (T C : List Tr) (i : Nat) where
  k : Nat
  kt : k ≤ T.length
  sub : (C.drop i).Sublist (T.drop k)
theorem sub_next {T C : List Tr} {i k : Nat} {x : Tr} (hx : C[i]? = some x) (hy : T[k]? = some x) (h : (C.drop i).Sublist (T.drop k)) : (C.drop (i + 1)).Sublist (T.drop (k + 1)) := by
  have h1 : i < C.length := by rcases Nat.lt_or_ge i C.length with h | h; exact h; rw [List.getElem?_eq_none h] at hx; cases hx
  have h2 : k < T.length := by rcases Nat.lt_or_ge k T.length with h | h; exact h; rw [List.getElem?_eq_none h] at hy; cases hy
  rw [List.drop_eq_getElem_cons h1, List.drop_eq_getElem_cons h2] at h
  rw [List.getElem?_eq_getElem h1] at hx
  rw [List.getElem?_eq_getElem h2] at hy
  rw [Option.some.inj hx, Option.some.inj hy] at h
  exact List.cons_sublist_cons.1 h
theorem sub_skip {T C : List Tr} {i k : Nat} {x y : Tr} (hx : C[i]? = some x) (hy : T[k]? = some y) (hne : x ≠ y) (h : (C.drop i).Sublist (T.drop k)) : (C.drop i).Sublist (T.drop (k + 1)) := by
  have h1 : i < C.length := by rcases Nat.lt_or_ge i C.length with h | h; exact h; rw [List.getElem?_eq_none h] at hx; cases hx
  have h2 : k < T.length := by rcases Nat.lt_or_ge k T.length with h | h; exact h; rw [List.getElem?_eq_none h] at hy; cases hy
  rw [List.drop_eq_getElem_cons h1, List.drop_eq_getElem_cons h2] at h
  rw [List.drop_eq_getElem_cons h1]
  rw [List.getElem?_eq_getElem h1] at hx
  rw [List.getElem?_eq_getElem h2] at hy
  rw [Option.some.inj hx, Option.some.inj hy] at h
  rw [Option.some.inj hx]
  cases h with
  | cons _ h => exact h
  | cons_cons => exact absurd rfl hne
theorem sub_end {T C : List Tr} {i k : Nat} (hi : i < C.length) (h : (C.drop i).Sublist (T.drop k)) : k < T.length := by
  rcases Nat.lt_or_ge k T.length with hk | hk
  · exact hk
  · rw [List.drop_eq_nil_of_le hk, List.drop_eq_getElem_cons hi] at h; cases h
abbrev HN (d : Nt) (G M : List Tr) : Hp := [d.v 1, .row 1 d.xs, .row 1 G, .row 1 M]
theorem law_NetCounts (x0 x1 x2 : Tr) (h0 : TrD (.sl 1 (.int .i64)) x0) (h1 : TrD (.sl 1 (.int .i64)) x1) (h2 : TrD .bool x2) : ACalls PP GG F.law27_NetCounts (toAVs [x0, x1, x2]) [] fun r _ => r = tb true := by
  obtain ⟨full, T, rfl, _, hlen, hT⟩ := h0
  obtain ⟨full1, P, rfl, _, hlen1, hP⟩ := h1
  obtain ⟨tw, rfl⟩ := h2
  have hTa : Ni.All T := fun y hy => by obtain ⟨v, hv, _⟩ := hT y hy; exact ⟨v, hv⟩
  refine K.law27_NetCounts.callsC rfl ?_
  refine sat_call Ni.new ?_
  rintro r H' ⟨rfl, rfl⟩
  (conv => arg 3; whnf); repeat (first | ((with_reducible refine sat_brT ?_ ?_); rfl; conv => arg 3; whnf) | ((with_reducible refine sat_brF ?_ ?_); rfl; conv => arg 3; whnf) | ((with_reducible refine sat_eqv ?_ ?_); rfl; conv => arg 3; whnf))
  refine sat_br (fun h => ?_) (fun h => ?_)
  · (conv => arg 3; whnf); repeat (first | ((with_reducible refine sat_brT ?_ ?_); rfl; conv => arg 3; whnf) | ((with_reducible refine sat_brF ?_ ?_); rfl; conv => arg 3; whnf) | ((with_reducible refine sat_eqv ?_ ?_); rfl; conv => arg 3; whnf))
    refine sat_call k_wakes ?_
    rintro r H' ⟨rfl, rfl⟩
    (conv => arg 3; whnf); repeat (first | ((with_reducible refine sat_brT ?_ ?_); rfl; conv => arg 3; whnf) | ((with_reducible refine sat_brF ?_ ?_); rfl; conv => arg 3; whnf) | ((with_reducible refine sat_eqv ?_ ?_); rfl; conv => arg 3; whnf))
    exact sat_ret rfl
  · have hTm : T.length ≤ 500 := by have := of_decide_eq_false h; omega
    (conv => arg 3; whnf); repeat (first | ((with_reducible refine sat_brT ?_ ?_); rfl; conv => arg 3; whnf) | ((with_reducible refine sat_brF ?_ ?_); rfl; conv => arg 3; whnf) | ((with_reducible refine sat_eqv ?_ ?_); rfl; conv => arg 3; whnf))
    refine sat_br (fun h => ?_) (fun h => ?_)
    · (conv => arg 3; whnf); repeat (first | ((with_reducible refine sat_brT ?_ ?_); rfl; conv => arg 3; whnf) | ((with_reducible refine sat_brF ?_ ?_); rfl; conv => arg 3; whnf) | ((with_reducible refine sat_eqv ?_ ?_); rfl; conv => arg 3; whnf))
      refine sat_call k_wakes ?_
      rintro r H' ⟨rfl, rfl⟩
      (conv => arg 3; whnf); repeat (first | ((with_reducible refine sat_brT ?_ ?_); rfl; conv => arg 3; whnf) | ((with_reducible refine sat_brF ?_ ?_); rfl; conv => arg 3; whnf) | ((with_reducible refine sat_eqv ?_ ?_); rfl; conv => arg 3; whnf))
      exact sat_ret rfl
    · have hPm : P.length ≤ 600 := by have := of_decide_eq_false h; omega
      have ok0 : Ni.OK ⟨[], 0⟩ := ⟨Nat.le_refl _, Nat.zero_le _, by intro y hy; cases hy⟩
      (conv => arg 3; whnf); repeat (first | ((with_reducible refine sat_brT ?_ ?_); rfl; conv => arg 3; whnf) | ((with_reducible refine sat_brF ?_ ?_); rfl; conv => arg 3; whnf) | ((with_reducible refine sat_eqv ?_ ?_); rfl; conv => arg 3; whnf))
      refine sat_call (Ni.send ⟨[], 0⟩ ok0 T (by omega)) ?_
      rintro r H' ⟨rfl, rfl⟩
      rcases Ni.send_c ⟨[], 0⟩ ok0 T hTa with ⟨_, _, hbad⟩ | ⟨s1, s2, s3, _⟩
      · exact absurd hbad (by simp [Nt.c]; omega)
      generalize Ni.Nt.send ⟨[], 0⟩ T = p at s1 s2 s3 ⊢
      obtain ⟨d0, c0⟩ := p
      dsimp only at s1 s2 s3
      subst s1
      have s3 : d0.c = T := s3
      (conv => arg 3; whnf); repeat (first | ((with_reducible refine sat_brT ?_ ?_); rfl; conv => arg 3; whnf) | ((with_reducible refine sat_brF ?_ ?_); rfl; conv => arg 3; whnf) | ((with_reducible refine sat_eqv ?_ ?_); rfl; conv => arg 3; whnf))
      refine sat_loopOf mkX_ops (σ := NcSt T tw P.length) (fun x => [(0, .t (.sl full 1 T)), (1, .t (.sl full1 1 P)), (2, tb tw), (7, pt 0), (8, .sl 2 0 [] 0 x.G.length none), (9, .sl 3 0 [] 0 x.M.length none), (10, ti x.i)]) (fun x => HN x.d x.G x.M) (fun x => P.length - x.i)
        (fun ex fr' H' => ∃ x : NcSt T tw P.length, ex = .exit 0 ∧ fr' = [(0, .t (.sl full 1 T)), (2, tb tw), (6, .undef), (7, pt 0), (8, .sl 2 0 [] 0 x.G.length none), (9, .sl 3 0 [] 0 x.M.length none)] ∧ H' = HN x.d x.G x.M) ⟨0, d0, [], [], Nat.zero_le _, ⟨s2, (by intro y hy; cases hy), (by intro y hy; cases hy), fun x => by rw [s3]; simp [tcnt], by rw [s3]; simp, Nat.le_refl _, Nat.le_refl _, fun _ => ⟨by rw [s3]; exact List.Sublist.refl _, rfl⟩⟩⟩ ?_ ?_
      · rintro ⟨i, d, G, M, im, inv⟩
        dsimp only
        have hcl := Ni.c_length inv.ok
        have hml := inv.ml
        have hgl := inv.gl
        have hll := inv.len
        have hcm : d.n ≤ 500 + i := by omega
        refine sat_br (fun hi => ?_) (fun hi => ?_)
        · have hi : i < P.length := by have := of_decide_eq_true hi; omega
          obtain ⟨pv, hpv, hp1, hp2⟩ := i64_get hP hi
          (conv => arg 3; whnf); repeat (first | ((with_reducible refine sat_brT ?_ ?_); rfl; conv => arg 3; whnf) | ((with_reducible refine sat_brF ?_ ?_); rfl; conv => arg 3; whnf) | ((with_reducible refine sat_eqv ?_ ?_); rfl; conv => arg 3; whnf))
          refine sat_call (Ni.len d) ?_
          rintro r H' ⟨rfl, rfl⟩
          (conv => arg 3; whnf); repeat (first | ((with_reducible refine sat_brT ?_ ?_); rfl; conv => arg 3; whnf) | ((with_reducible refine sat_brF ?_ ?_); rfl; conv => arg 3; whnf) | ((with_reducible refine sat_eqv ?_ ?_); rfl; conv => arg 3; whnf))
          refine sat_br (fun hn => ?_) (fun hn => ?_)
          · have hn : 0 < d.n := by have := of_decide_eq_true hn; omega
            (conv => arg 3; whnf); repeat (first | ((with_reducible refine sat_brT ?_ ?_); rfl; conv => arg 3; whnf) | ((with_reducible refine sat_brF ?_ ?_); rfl; conv => arg 3; whnf) | ((with_reducible refine sat_eqv ?_ ?_); rfl; conv => arg 3; whnf) | ((with_reducible refine sat_idx (.int .i64 pv) ?_ ?_ ?_); (first | omega | simp); (simpa using hpv); conv => arg 3; whnf) | ((with_reducible refine sat_rng ?_ ?_); (exact wrap64 (by omega) (by omega)); conv => arg 3; whnf))
            refine sat_call (Ni.len d) ?_
            rintro r H' ⟨rfl, rfl⟩
            (conv => arg 3; whnf); repeat (first | ((with_reducible refine sat_brT ?_ ?_); rfl; conv => arg 3; whnf) | ((with_reducible refine sat_brF ?_ ?_); rfl; conv => arg 3; whnf) | ((with_reducible refine sat_eqv ?_ ?_); rfl; conv => arg 3; whnf) | ((with_reducible refine sat_idx (.int .i64 pv) ?_ ?_ ?_); (first | omega | simp); (simpa using hpv); conv => arg 3; whnf) | ((with_reducible refine sat_rng ?_ ?_); (exact wrap64 (by omega) (by omega)); conv => arg 3; whnf))
            refine sat_asrt (by simp; omega) ?_
            (conv => arg 3; whnf); repeat (first | ((with_reducible refine sat_brT ?_ ?_); rfl; conv => arg 3; whnf) | ((with_reducible refine sat_brF ?_ ?_); rfl; conv => arg 3; whnf) | ((with_reducible refine sat_eqv ?_ ?_); rfl; conv => arg 3; whnf) | ((with_reducible refine sat_idx (.int .i64 pv) ?_ ?_ ?_); (first | omega | simp); (simpa using hpv); conv => arg 3; whnf) | ((with_reducible refine sat_rng ?_ ?_); (exact wrap64 (by omega) (by omega)); conv => arg 3; whnf))
            have hm1 : Int.tmod pv d.n < d.n := Int.tmod_lt_of_pos _ (by omega)
            have hm2 : -(d.n : Int) < Int.tmod pv d.n := by have := Int.lt_tmod_of_pos pv (b := (d.n : Int)) (by omega); omega
            refine sat_br (fun hneg => ?_) (fun hneg => ?_)
            · have hneg : Int.tmod pv d.n < 0 := of_decide_eq_true hneg
              (conv => arg 3; whnf); repeat (first | ((with_reducible refine sat_brT ?_ ?_); rfl; conv => arg 3; whnf) | ((with_reducible refine sat_brF ?_ ?_); rfl; conv => arg 3; whnf) | ((with_reducible refine sat_eqv ?_ ?_); rfl; conv => arg 3; whnf))
              refine sat_call (Ni.len d) ?_
              rintro r H' ⟨rfl, rfl⟩
              (conv => arg 3; whnf); repeat (first | ((with_reducible refine sat_brT ?_ ?_); rfl; conv => arg 3; whnf) | ((with_reducible refine sat_brF ?_ ?_); rfl; conv => arg 3; whnf) | ((with_reducible refine sat_eqv ?_ ?_); rfl; conv => arg 3; whnf))
              refine sat_rng (wrap64 (by omega) (by omega)) ?_
              have hA : Ni.Nt.has d (Int.tmod pv d.n + d.n) = true := decide_eq_true (by omega)
              obtain ⟨v, hv, hvc⟩ := Ni.has_get inv.ok hA
              (conv => arg 3; whnf); repeat (first | ((with_reducible refine sat_brT ?_ ?_); rfl; conv => arg 3; whnf) | ((with_reducible refine sat_brF ?_ ?_); rfl; conv => arg 3; whnf) | ((with_reducible refine sat_eqv ?_ ?_); rfl; conv => arg 3; whnf))
              refine sat_call (Ni.at_yes d inv.ok _ hA v hv) ?_
              rintro r H' ⟨rfl, rfl⟩
              (conv => arg 3; whnf); repeat (first | ((with_reducible refine sat_brT ?_ ?_); rfl; conv => arg 3; whnf) | ((with_reducible refine sat_brF ?_ ?_); rfl; conv => arg 3; whnf) | ((with_reducible refine sat_eqv ?_ ?_); rfl; conv => arg 3; whnf))
              refine sat_br (fun ht => ?_) (fun ht => ?_)
              · (conv => arg 3; whnf); repeat (first | ((with_reducible refine sat_brT ?_ ?_); rfl; conv => arg 3; whnf) | ((with_reducible refine sat_brF ?_ ?_); rfl; conv => arg 3; whnf) | ((with_reducible refine sat_eqv ?_ ?_); rfl; conv => arg 3; whnf))
                refine sat_asrt rfl ?_
                (conv => arg 3; whnf); repeat (first | ((with_reducible refine sat_brT ?_ ?_); rfl; conv => arg 3; whnf) | ((with_reducible refine sat_brF ?_ ?_); rfl; conv => arg 3; whnf) | ((with_reducible refine sat_eqv ?_ ?_); rfl; conv => arg 3; whnf))
                refine sat_br (fun h3 => ?_) (fun h3 => ?_)
                · (conv => arg 3; whnf); repeat (first | ((with_reducible refine sat_brT ?_ ?_); rfl; conv => arg 3; whnf) | ((with_reducible refine sat_brF ?_ ?_); rfl; conv => arg 3; whnf) | ((with_reducible refine sat_eqv ?_ ?_); rfl; conv => arg 3; whnf))
                  refine sat_call (Ni.dup_yes d inv.ok _ hA v hv) ?_
                  rintro r H' ⟨rfl, rfl⟩
                  rcases Ni.send_c d inv.ok [.int .i64 v] (by intro y hy; simp at hy; exact ⟨v, hy⟩) with ⟨_, _, hbad⟩ | ⟨t1, t2, t3, _⟩
                  · exact absurd hbad (by simp; omega)
                  generalize Ni.Nt.send d [.int .i64 v] = p at t1 t2 t3 ⊢
                  obtain ⟨d1, c1⟩ := p
                  dsimp only at t1 t2 t3
                  subst t1
                  (conv => arg 3; whnf); repeat (first | ((with_reducible refine sat_brT ?_ ?_); rfl; conv => arg 3; whnf) | ((with_reducible refine sat_brF ?_ ?_); rfl; conv => arg 3; whnf) | ((with_reducible refine sat_eqv ?_ ?_); rfl; conv => arg 3; whnf))
                  refine sat_asrt (by first | rfl | (simp; done) | (simp; omega)) ?_
                  refine sat_asrt (by simp [roomy]; omega) ?_
                  refine sat_brT (Nat.beq_refl _) ?_
                  (conv => arg 3; whnf); repeat (first | ((with_reducible refine sat_brT ?_ ?_); rfl; conv => arg 3; whnf) | ((with_reducible refine sat_brF ?_ ?_); rfl; conv => arg 3; whnf) | ((with_reducible refine sat_eqv ?_ ?_); rfl; conv => arg 3; whnf))
                  refine sat_rng (wrap64 (by omega) (by omega)) ?_
                  exact sat_ret ⟨⟨i + 1, d1, G, M ++ [.int .i64 v], hi, nc_dup inv ht v t2 t3⟩, rfl, rfl, by show P.length - (i + 1) < P.length - i; omega⟩
                · (conv => arg 3; whnf); repeat (first | ((with_reducible refine sat_brT ?_ ?_); rfl; conv => arg 3; whnf) | ((with_reducible refine sat_brF ?_ ?_); rfl; conv => arg 3; whnf) | ((with_reducible refine sat_eqv ?_ ?_); rfl; conv => arg 3; whnf))
                  refine sat_call (Ni.deliver_yes d inv.ok _ hA v hv) ?_
                  rintro r H' ⟨ys, m, hw, rfl, rfl⟩
                  obtain ⟨w1, w2⟩ := Ni.without_c inv.ok hw
                  (conv => arg 3; whnf); repeat (first | ((with_reducible refine sat_brT ?_ ?_); rfl; conv => arg 3; whnf) | ((with_reducible refine sat_brF ?_ ?_); rfl; conv => arg 3; whnf) | ((with_reducible refine sat_eqv ?_ ?_); rfl; conv => arg 3; whnf))
                  refine sat_brF (by simp) ?_
                  (conv => arg 3; whnf); repeat (first | ((with_reducible refine sat_brT ?_ ?_); rfl; conv => arg 3; whnf) | ((with_reducible refine sat_brF ?_ ?_); rfl; conv => arg 3; whnf) | ((with_reducible refine sat_eqv ?_ ?_); rfl; conv => arg 3; whnf))
                  refine sat_asrt (by first | rfl | (simp; done) | (simp; omega)) ?_
                  refine sat_asrt (by simp [roomy]; omega) ?_
                  refine sat_brT (Nat.beq_refl _) ?_
                  (conv => arg 3; whnf); repeat (first | ((with_reducible refine sat_brT ?_ ?_); rfl; conv => arg 3; whnf) | ((with_reducible refine sat_brF ?_ ?_); rfl; conv => arg 3; whnf) | ((with_reducible refine sat_eqv ?_ ?_); rfl; conv => arg 3; whnf))
                  refine sat_rng (wrap64 (by omega) (by omega)) ?_
                  exact sat_ret ⟨⟨i + 1, ⟨ys, m⟩, G ++ [.int .i64 v], M, hi, nc_take inv v _ hvc w1 w2⟩, rfl, rfl, by show P.length - (i + 1) < P.length - i; omega⟩
              · (conv => arg 3; whnf); repeat (first | ((with_reducible refine sat_brT ?_ ?_); rfl; conv => arg 3; whnf) | ((with_reducible refine sat_brF ?_ ?_); rfl; conv => arg 3; whnf) | ((with_reducible refine sat_eqv ?_ ?_); rfl; conv => arg 3; whnf))
                refine sat_call (Ni.deliver_yes d inv.ok _ hA v hv) ?_
                rintro r H' ⟨ys, m, hw, rfl, rfl⟩
                obtain ⟨w1, w2⟩ := Ni.without_c inv.ok hw
                (conv => arg 3; whnf); repeat (first | ((with_reducible refine sat_brT ?_ ?_); rfl; conv => arg 3; whnf) | ((with_reducible refine sat_brF ?_ ?_); rfl; conv => arg 3; whnf) | ((with_reducible refine sat_eqv ?_ ?_); rfl; conv => arg 3; whnf))
                refine sat_brF (by simp) ?_
                (conv => arg 3; whnf); repeat (first | ((with_reducible refine sat_brT ?_ ?_); rfl; conv => arg 3; whnf) | ((with_reducible refine sat_brF ?_ ?_); rfl; conv => arg 3; whnf) | ((with_reducible refine sat_eqv ?_ ?_); rfl; conv => arg 3; whnf))
                refine sat_asrt (by first | rfl | (simp; done) | (simp; omega)) ?_
                refine sat_asrt (by simp [roomy]; omega) ?_
                refine sat_brT (Nat.beq_refl _) ?_
                (conv => arg 3; whnf); repeat (first | ((with_reducible refine sat_brT ?_ ?_); rfl; conv => arg 3; whnf) | ((with_reducible refine sat_brF ?_ ?_); rfl; conv => arg 3; whnf) | ((with_reducible refine sat_eqv ?_ ?_); rfl; conv => arg 3; whnf))
                refine sat_rng (wrap64 (by omega) (by omega)) ?_
                exact sat_ret ⟨⟨i + 1, ⟨ys, m⟩, G ++ [.int .i64 v], M, hi, nc_take inv v _ hvc w1 w2⟩, rfl, rfl, by show P.length - (i + 1) < P.length - i; omega⟩
            · have hneg : ¬ Int.tmod pv d.n < 0 := of_decide_eq_false hneg
              have hA : Ni.Nt.has d (Int.tmod pv d.n) = true := decide_eq_true (by omega)
              obtain ⟨v, hv, hvc⟩ := Ni.has_get inv.ok hA
              (conv => arg 3; whnf); repeat (first | ((with_reducible refine sat_brT ?_ ?_); rfl; conv => arg 3; whnf) | ((with_reducible refine sat_brF ?_ ?_); rfl; conv => arg 3; whnf) | ((with_reducible refine sat_eqv ?_ ?_); rfl; conv => arg 3; whnf))
              refine sat_call (Ni.at_yes d inv.ok _ hA v hv) ?_
              rintro r H' ⟨rfl, rfl⟩
              (conv => arg 3; whnf); repeat (first | ((with_reducible refine sat_brT ?_ ?_); rfl; conv => arg 3; whnf) | ((with_reducible refine sat_brF ?_ ?_); rfl; conv => arg 3; whnf) | ((with_reducible refine sat_eqv ?_ ?_); rfl; conv => arg 3; whnf))
              refine sat_br (fun ht => ?_) (fun ht => ?_)
              · (conv => arg 3; whnf); repeat (first | ((with_reducible refine sat_brT ?_ ?_); rfl; conv => arg 3; whnf) | ((with_reducible refine sat_brF ?_ ?_); rfl; conv => arg 3; whnf) | ((with_reducible refine sat_eqv ?_ ?_); rfl; conv => arg 3; whnf))
                refine sat_asrt rfl ?_
                (conv => arg 3; whnf); repeat (first | ((with_reducible refine sat_brT ?_ ?_); rfl; conv => arg 3; whnf) | ((with_reducible refine sat_brF ?_ ?_); rfl; conv => arg 3; whnf) | ((with_reducible refine sat_eqv ?_ ?_); rfl; conv => arg 3; whnf))
                refine sat_br (fun h3 => ?_) (fun h3 => ?_)
                · (conv => arg 3; whnf); repeat (first | ((with_reducible refine sat_brT ?_ ?_); rfl; conv => arg 3; whnf) | ((with_reducible refine sat_brF ?_ ?_); rfl; conv => arg 3; whnf) | ((with_reducible refine sat_eqv ?_ ?_); rfl; conv => arg 3; whnf))
                  refine sat_call (Ni.dup_yes d inv.ok _ hA v hv) ?_
                  rintro r H' ⟨rfl, rfl⟩
                  rcases Ni.send_c d inv.ok [.int .i64 v] (by intro y hy; simp at hy; exact ⟨v, hy⟩) with ⟨_, _, hbad⟩ | ⟨t1, t2, t3, _⟩
                  · exact absurd hbad (by simp; omega)
                  generalize Ni.Nt.send d [.int .i64 v] = p at t1 t2 t3 ⊢
                  obtain ⟨d1, c1⟩ := p
                  dsimp only at t1 t2 t3
                  subst t1
                  (conv => arg 3; whnf); repeat (first | ((with_reducible refine sat_brT ?_ ?_); rfl; conv => arg 3; whnf) | ((with_reducible refine sat_brF ?_ ?_); rfl; conv => arg 3; whnf) | ((with_reducible refine sat_eqv ?_ ?_); rfl; conv => arg 3; whnf))
                  refine sat_asrt (by first | rfl | (simp; done) | (simp; omega)) ?_
                  refine sat_asrt (by simp [roomy]; omega) ?_
                  refine sat_brT (Nat.beq_refl _) ?_
                  (conv => arg 3; whnf); repeat (first | ((with_reducible refine sat_brT ?_ ?_); rfl; conv => arg 3; whnf) | ((with_reducible refine sat_brF ?_ ?_); rfl; conv => arg 3; whnf) | ((with_reducible refine sat_eqv ?_ ?_); rfl; conv => arg 3; whnf))
                  refine sat_rng (wrap64 (by omega) (by omega)) ?_
                  exact sat_ret ⟨⟨i + 1, d1, G, M ++ [.int .i64 v], hi, nc_dup inv ht v t2 t3⟩, rfl, rfl, by show P.length - (i + 1) < P.length - i; omega⟩
                · (conv => arg 3; whnf); repeat (first | ((with_reducible refine sat_brT ?_ ?_); rfl; conv => arg 3; whnf) | ((with_reducible refine sat_brF ?_ ?_); rfl; conv => arg 3; whnf) | ((with_reducible refine sat_eqv ?_ ?_); rfl; conv => arg 3; whnf))
                  refine sat_call (Ni.deliver_yes d inv.ok _ hA v hv) ?_
                  rintro r H' ⟨ys, m, hw, rfl, rfl⟩
                  obtain ⟨w1, w2⟩ := Ni.without_c inv.ok hw
                  (conv => arg 3; whnf); repeat (first | ((with_reducible refine sat_brT ?_ ?_); rfl; conv => arg 3; whnf) | ((with_reducible refine sat_brF ?_ ?_); rfl; conv => arg 3; whnf) | ((with_reducible refine sat_eqv ?_ ?_); rfl; conv => arg 3; whnf))
                  refine sat_brF (by simp) ?_
                  (conv => arg 3; whnf); repeat (first | ((with_reducible refine sat_brT ?_ ?_); rfl; conv => arg 3; whnf) | ((with_reducible refine sat_brF ?_ ?_); rfl; conv => arg 3; whnf) | ((with_reducible refine sat_eqv ?_ ?_); rfl; conv => arg 3; whnf))
                  refine sat_asrt (by first | rfl | (simp; done) | (simp; omega)) ?_
                  refine sat_asrt (by simp [roomy]; omega) ?_
                  refine sat_brT (Nat.beq_refl _) ?_
                  (conv => arg 3; whnf); repeat (first | ((with_reducible refine sat_brT ?_ ?_); rfl; conv => arg 3; whnf) | ((with_reducible refine sat_brF ?_ ?_); rfl; conv => arg 3; whnf) | ((with_reducible refine sat_eqv ?_ ?_); rfl; conv => arg 3; whnf))
                  refine sat_rng (wrap64 (by omega) (by omega)) ?_
                  exact sat_ret ⟨⟨i + 1, ⟨ys, m⟩, G ++ [.int .i64 v], M, hi, nc_take inv v _ hvc w1 w2⟩, rfl, rfl, by show P.length - (i + 1) < P.length - i; omega⟩
              · (conv => arg 3; whnf); repeat (first | ((with_reducible refine sat_brT ?_ ?_); rfl; conv => arg 3; whnf) | ((with_reducible refine sat_brF ?_ ?_); rfl; conv => arg 3; whnf) | ((with_reducible refine sat_eqv ?_ ?_); rfl; conv => arg 3; whnf))
                refine sat_call (Ni.deliver_yes d inv.ok _ hA v hv) ?_
                rintro r H' ⟨ys, m, hw, rfl, rfl⟩
                obtain ⟨w1, w2⟩ := Ni.without_c inv.ok hw
                (conv => arg 3; whnf); repeat (first | ((with_reducible refine sat_brT ?_ ?_); rfl; conv => arg 3; whnf) | ((with_reducible refine sat_brF ?_ ?_); rfl; conv => arg 3; whnf) | ((with_reducible refine sat_eqv ?_ ?_); rfl; conv => arg 3; whnf))
                refine sat_brF (by simp) ?_
                (conv => arg 3; whnf); repeat (first | ((with_reducible refine sat_brT ?_ ?_); rfl; conv => arg 3; whnf) | ((with_reducible refine sat_brF ?_ ?_); rfl; conv => arg 3; whnf) | ((with_reducible refine sat_eqv ?_ ?_); rfl; conv => arg 3; whnf))
                refine sat_asrt (by first | rfl | (simp; done) | (simp; omega)) ?_
                refine sat_asrt (by simp [roomy]; omega) ?_
                refine sat_brT (Nat.beq_refl _) ?_
                (conv => arg 3; whnf); repeat (first | ((with_reducible refine sat_brT ?_ ?_); rfl; conv => arg 3; whnf) | ((with_reducible refine sat_brF ?_ ?_); rfl; conv => arg 3; whnf) | ((with_reducible refine sat_eqv ?_ ?_); rfl; conv => arg 3; whnf))
                refine sat_rng (wrap64 (by omega) (by omega)) ?_
                exact sat_ret ⟨⟨i + 1, ⟨ys, m⟩, G ++ [.int .i64 v], M, hi, nc_take inv v _ hvc w1 w2⟩, rfl, rfl, by show P.length - (i + 1) < P.length - i; omega⟩
          · refine sat_ret ?_
            exact ⟨⟨i, d, G, M, im, inv⟩, rfl, rfl, rfl⟩
        · (conv => arg 3; whnf); repeat (first | ((with_reducible refine sat_brT ?_ ?_); rfl; conv => arg 3; whnf) | ((with_reducible refine sat_brF ?_ ?_); rfl; conv => arg 3; whnf) | ((with_reducible refine sat_eqv ?_ ?_); rfl; conv => arg 3; whnf))
          refine sat_ret ?_
          exact ⟨⟨i, d, G, M, im, inv⟩, rfl, rfl, rfl⟩
      · rintro ex fr' H' ⟨⟨i, d, G, M, im, inv⟩, rfl, rfl, rfl⟩
        dsimp only
        have hcl := Ni.c_length inv.ok
        have hml := inv.ml
        have hgl := inv.gl
        have hll := inv.len
        have hca : Ni.All d.c := inv.ok.all.take _
        (conv => arg 3; whnf); repeat (first | ((with_reducible refine sat_brT ?_ ?_); rfl; conv => arg 3; whnf) | ((with_reducible refine sat_brF ?_ ?_); rfl; conv => arg 3; whnf) | ((with_reducible refine sat_eqv ?_ ?_); rfl; conv => arg 3; whnf))
        refine sat_call (Ni.alls d inv.ok) ?_
        rintro r H' ⟨rfl, rfl⟩
        (conv => arg 3; whnf); repeat (first | ((with_reducible refine sat_brT ?_ ?_); rfl; conv => arg 3; whnf) | ((with_reducible refine sat_brF ?_ ?_); rfl; conv => arg 3; whnf) | ((with_reducible refine sat_eqv ?_ ?_); rfl; conv => arg 3; whnf))
        refine sat_call (Ni.len d) ?_
        rintro r H' ⟨rfl, rfl⟩
        (conv => arg 3; whnf); repeat (first | ((with_reducible refine sat_brT ?_ ?_); rfl; conv => arg 3; whnf) | ((with_reducible refine sat_brF ?_ ?_); rfl; conv => arg 3; whnf) | ((with_reducible refine sat_eqv ?_ ?_); rfl; conv => arg 3; whnf))
        refine sat_brF (by simp [hcl]) ?_
        (conv => arg 3; whnf); repeat (first | ((with_reducible refine sat_brT ?_ ?_); rfl; conv => arg 3; whnf) | ((with_reducible refine sat_brF ?_ ?_); rfl; conv => arg 3; whnf) | ((with_reducible refine sat_eqv ?_ ?_); rfl; conv => arg 3; whnf))
        refine sat_rng (wrap64 (by omega) (by omega)) ?_
        (conv => arg 3; whnf); repeat (first | ((with_reducible refine sat_brT ?_ ?_); rfl; conv => arg 3; whnf) | ((with_reducible refine sat_brF ?_ ?_); rfl; conv => arg 3; whnf) | ((with_reducible refine sat_eqv ?_ ?_); rfl; conv => arg 3; whnf))
        refine sat_rng (wrap64 (by omega) (by omega)) ?_
        (conv => arg 3; whnf); repeat (first | ((with_reducible refine sat_brT ?_ ?_); rfl; conv => arg 3; whnf) | ((with_reducible refine sat_brF ?_ ?_); rfl; conv => arg 3; whnf) | ((with_reducible refine sat_eqv ?_ ?_); rfl; conv => arg 3; whnf))
        refine sat_brF (by simp; omega) ?_
        (conv => arg 3; whnf); repeat (first | ((with_reducible refine sat_brT ?_ ?_); rfl; conv => arg 3; whnf) | ((with_reducible refine sat_brF ?_ ?_); rfl; conv => arg 3; whnf) | ((with_reducible refine sat_eqv ?_ ?_); rfl; conv => arg 3; whnf))
        refine sat_loopOf mkX_ops (σ := L2St T.length) (fun x => [(0, .t (.sl full 1 T)), (2, tb tw), (8, .sl 0 0 [] 0 G.length none), (9, .sl 1 0 [] 0 M.length none), (16, .sl 2 0 [] 0 d.c.length none), (17, ti x.i)]) (fun x => [.row 1 G, .row 1 M, .row 1 d.c]) (fun x => T.length - x.i)
          (fun ex fr' H' => ex = .exit 2 ∧ fr' = [(0, .t (.sl full 1 T)), (2, tb tw), (6, .undef), (16, .sl 2 0 [] 0 d.c.length none)] ∧ H' = [.row 1 G, .row 1 M, .row 1 d.c]) ⟨0, Nat.zero_le _⟩ ?_ ?_
        · rintro ⟨j, jm⟩
          dsimp only
          refine sat_br (fun hj => ?_) (fun hj => ?_)
          · have hj : j < T.length := by have := of_decide_eq_true hj; omega
            obtain ⟨v, hv⟩ := hTa.get hj
            (conv => arg 3; whnf); repeat (first | ((with_reducible refine sat_brT ?_ ?_); rfl; conv => arg 3; whnf) | ((with_reducible refine sat_brF ?_ ?_); rfl; conv => arg 3; whnf) | ((with_reducible refine sat_eqv ?_ ?_); rfl; conv => arg 3; whnf))
            refine sat_br (fun h6 => ?_) (fun h6 => ?_)
            · (conv => arg 3; whnf); repeat (first | ((with_reducible refine sat_brT ?_ ?_); rfl; conv => arg 3; whnf) | ((with_reducible refine sat_brF ?_ ?_); rfl; conv => arg 3; whnf) | ((with_reducible refine sat_eqv ?_ ?_); rfl; conv => arg 3; whnf) | ((with_reducible refine sat_idx (.int .i64 v) ?_ ?_ ?_); (first | omega | simp); (simpa using hv); conv => arg 3; whnf) | ((with_reducible refine sat_rng ?_ ?_); (exact wrap64 (by omega) (by omega)); conv => arg 3; whnf))
              have eG : (G.drop 0).take G.length = G := by rw [List.drop_zero, List.take_length]
              have eM : (M.drop 0).take M.length = M := by rw [List.drop_zero, List.take_length]
              have eC : (d.c.drop 0).take d.c.length = d.c := by rw [List.drop_zero, List.take_length]
              have b1 := tcnt_le v G
              have b2 := tcnt_le v M
              have b3 := tcnt_le v d.c
              have b4 := tcnt_le v T
              have bc := inv.cnt v
              refine sat_call (k_times ((G.drop 0).take G.length) v (by rw [eG]; exact inv.g) (by rw [eG]; omega)) ?_
              rintro r H' ⟨rfl, rfl⟩
              rw [eG]
              (conv => arg 3; whnf); repeat (first | ((with_reducible refine sat_brT ?_ ?_); rfl; conv => arg 3; whnf) | ((with_reducible refine sat_brF ?_ ?_); rfl; conv => arg 3; whnf) | ((with_reducible refine sat_eqv ?_ ?_); rfl; conv => arg 3; whnf) | ((with_reducible refine sat_idx (.int .i64 v) ?_ ?_ ?_); (first | omega | simp); (simpa using hv); conv => arg 3; whnf) | ((with_reducible refine sat_rng ?_ ?_); (exact wrap64 (by omega) (by omega)); conv => arg 3; whnf))
              refine sat_call (k_times ((d.c.drop 0).take d.c.length) v (by rw [eC]; exact hca) (by rw [eC]; omega)) ?_
              rintro r H' ⟨rfl, rfl⟩
              rw [eC]
              (conv => arg 3; whnf); repeat (first | ((with_reducible refine sat_brT ?_ ?_); rfl; conv => arg 3; whnf) | ((with_reducible refine sat_brF ?_ ?_); rfl; conv => arg 3; whnf) | ((with_reducible refine sat_eqv ?_ ?_); rfl; conv => arg 3; whnf) | ((with_reducible refine sat_idx (.int .i64 v) ?_ ?_ ?_); (first | omega | simp); (simpa using hv); conv => arg 3; whnf) | ((with_reducible refine sat_rng ?_ ?_); (exact wrap64 (by omega) (by omega)); conv => arg 3; whnf))
              refine sat_call (k_times T v hTa (by omega)) ?_
              rintro r H' ⟨rfl, rfl⟩
              (conv => arg 3; whnf); repeat (first | ((with_reducible refine sat_brT ?_ ?_); rfl; conv => arg 3; whnf) | ((with_reducible refine sat_brF ?_ ?_); rfl; conv => arg 3; whnf) | ((with_reducible refine sat_eqv ?_ ?_); rfl; conv => arg 3; whnf) | ((with_reducible refine sat_idx (.int .i64 v) ?_ ?_ ?_); (first | omega | simp); (simpa using hv); conv => arg 3; whnf) | ((with_reducible refine sat_rng ?_ ?_); (exact wrap64 (by omega) (by omega)); conv => arg 3; whnf))
              refine sat_call (k_times ((M.drop 0).take M.length) v (by rw [eM]; exact inv.m) (by rw [eM]; omega)) ?_
              rintro r H' ⟨rfl, rfl⟩
              rw [eM]
              (conv => arg 3; whnf); repeat (first | ((with_reducible refine sat_brT ?_ ?_); rfl; conv => arg 3; whnf) | ((with_reducible refine sat_brF ?_ ?_); rfl; conv => arg 3; whnf) | ((with_reducible refine sat_eqv ?_ ?_); rfl; conv => arg 3; whnf) | ((with_reducible refine sat_idx (.int .i64 v) ?_ ?_ ?_); (first | omega | simp); (simpa using hv); conv => arg 3; whnf) | ((with_reducible refine sat_rng ?_ ?_); (exact wrap64 (by omega) (by omega)); conv => arg 3; whnf))
              refine sat_brF (by simp; omega) ?_
              (conv => arg 3; whnf); repeat (first | ((with_reducible refine sat_brT ?_ ?_); rfl; conv => arg 3; whnf) | ((with_reducible refine sat_brF ?_ ?_); rfl; conv => arg 3; whnf) | ((with_reducible refine sat_eqv ?_ ?_); rfl; conv => arg 3; whnf))
              refine sat_rng (wrap64 (by omega) (by omega)) ?_
              exact sat_ret ⟨⟨j + 1, hj⟩, rfl, rfl, by show T.length - (j + 1) < T.length - j; omega⟩
            · (conv => arg 3; whnf); repeat (first | ((with_reducible refine sat_brT ?_ ?_); rfl; conv => arg 3; whnf) | ((with_reducible refine sat_brF ?_ ?_); rfl; conv => arg 3; whnf) | ((with_reducible refine sat_eqv ?_ ?_); rfl; conv => arg 3; whnf))
              refine sat_ret ?_
              exact ⟨rfl, rfl, rfl⟩
          · (conv => arg 3; whnf); repeat (first | ((with_reducible refine sat_brT ?_ ?_); rfl; conv => arg 3; whnf) | ((with_reducible refine sat_brF ?_ ?_); rfl; conv => arg 3; whnf) | ((with_reducible refine sat_eqv ?_ ?_); rfl; conv => arg 3; whnf))
            refine sat_ret ?_
            exact ⟨rfl, rfl, rfl⟩
        · rintro ex fr' H' ⟨rfl, rfl, rfl⟩
          (conv => arg 3; whnf); repeat (first | ((with_reducible refine sat_brT ?_ ?_); rfl; conv => arg 3; whnf) | ((with_reducible refine sat_brF ?_ ?_); rfl; conv => arg 3; whnf) | ((with_reducible refine sat_eqv ?_ ?_); rfl; conv => arg 3; whnf))
          refine sat_br (fun ht => ?_) (fun ht => ?_)
          · (conv => arg 3; whnf); repeat (first | ((with_reducible refine sat_brT ?_ ?_); rfl; conv => arg 3; whnf) | ((with_reducible refine sat_brF ?_ ?_); rfl; conv => arg 3; whnf) | ((with_reducible refine sat_eqv ?_ ?_); rfl; conv => arg 3; whnf))
            refine sat_call k_wakes ?_
            rintro r H' ⟨rfl, rfl⟩
            (conv => arg 3; whnf); repeat (first | ((with_reducible refine sat_brT ?_ ?_); rfl; conv => arg 3; whnf) | ((with_reducible refine sat_brF ?_ ?_); rfl; conv => arg 3; whnf) | ((with_reducible refine sat_eqv ?_ ?_); rfl; conv => arg 3; whnf))
            exact sat_ret rfl
          · obtain ⟨hsub, _⟩ := inv.sub ht
            (conv => arg 3; whnf); repeat (first | ((with_reducible refine sat_brT ?_ ?_); rfl; conv => arg 3; whnf) | ((with_reducible refine sat_brF ?_ ?_); rfl; conv => arg 3; whnf) | ((with_reducible refine sat_eqv ?_ ?_); rfl; conv => arg 3; whnf))
            refine sat_loopOf mkX_ops (σ := L3St T d.c) (fun x => [(0, .t (.sl full 1 T)), (16, .sl 0 0 [] 0 d.c.length none), (18, ti x.k), (19, ti x.i)]) (fun x => [.row 1 d.c]) (fun x => d.c.length - x.i)
              (fun ex fr' H' => ex = .exit 4 ∧ fr' = [(6, .undef)] ∧ H' = [.row 1 d.c]) ⟨0, 0, Nat.zero_le _, Nat.zero_le _, hsub⟩ ?_ ?_
            · rintro ⟨j, k, jc, kt, sub⟩
              dsimp only
              refine sat_br (fun hj => ?_) (fun hj => ?_)
              · have hj : j < d.c.length := by have := of_decide_eq_true hj; omega
                obtain ⟨v, hv⟩ := hca.get hj
                (conv => arg 3; whnf); repeat (first | ((with_reducible refine sat_brT ?_ ?_); rfl; conv => arg 3; whnf) | ((with_reducible refine sat_brF ?_ ?_); rfl; conv => arg 3; whnf) | ((with_reducible refine sat_eqv ?_ ?_); rfl; conv => arg 3; whnf))
                refine sat_loopOf mkX_ops (σ := L4St T d.c j) (fun x => [(0, .t (.sl full 1 T)), (16, .sl 0 0 [] 0 d.c.length none), (18, ti x.k), (19, ti j)]) (fun x => [.row 1 d.c]) (fun x => T.length - x.k)
                  (fun ex fr' H' => ∃ k : Nat, ex = .exit 6 ∧ fr' = [(0, .t (.sl full 1 T)), (16, .sl 0 0 [] 0 d.c.length none), (18, ti k), (19, ti j)] ∧ H' = [.row 1 d.c] ∧ T[k]? = d.c[j]? ∧ k < T.length ∧ (d.c.drop j).Sublist (T.drop k)) ⟨k, kt, sub⟩ ?_ ?_
                · rintro ⟨k, kt, sub⟩
                  dsimp only
                  have hk := sub_end hj sub
                  obtain ⟨u, hu⟩ := hTa.get hk
                  (conv => arg 3; whnf); repeat (first | ((with_reducible refine sat_brT ?_ ?_); rfl; conv => arg 3; whnf) | ((with_reducible refine sat_brF ?_ ?_); rfl; conv => arg 3; whnf) | ((with_reducible refine sat_eqv ?_ ?_); rfl; conv => arg 3; whnf))
                  refine sat_brT (decide_eq_true (by omega)) ?_
                  (conv => arg 3; whnf); repeat (first | ((with_reducible refine sat_brT ?_ ?_); rfl; conv => arg 3; whnf) | ((with_reducible refine sat_brF ?_ ?_); rfl; conv => arg 3; whnf) | ((with_reducible refine sat_eqv ?_ ?_); rfl; conv => arg 3; whnf))
                  refine sat_idx (.int .i64 u) (by simp) (by simpa using hu) ?_
                  (conv => arg 3; whnf); repeat (first | ((with_reducible refine sat_brT ?_ ?_); rfl; conv => arg 3; whnf) | ((with_reducible refine sat_brF ?_ ?_); rfl; conv => arg 3; whnf) | ((with_reducible refine sat_eqv ?_ ?_); rfl; conv => arg 3; whnf))
                  refine sat_asrt (decide_eq_true (by omega)) ?_
                  (conv => arg 3; whnf); repeat (first | ((with_reducible refine sat_brT ?_ ?_); rfl; conv => arg 3; whnf) | ((with_reducible refine sat_brF ?_ ?_); rfl; conv => arg 3; whnf) | ((with_reducible refine sat_eqv ?_ ?_); rfl; conv => arg 3; whnf))
                  refine sat_idx (.int .i64 v) (by simp) (by simpa using hv) ?_
                  (conv => arg 3; whnf); repeat (first | ((with_reducible refine sat_brT ?_ ?_); rfl; conv => arg 3; whnf) | ((with_reducible refine sat_brF ?_ ?_); rfl; conv => arg 3; whnf) | ((with_reducible refine sat_eqv ?_ ?_); rfl; conv => arg 3; whnf))
                  refine sat_br (fun hne => ?_) (fun hne => ?_)
                  · have hne : ¬ u = v := by simpa using hne
                    (conv => arg 3; whnf); repeat (first | ((with_reducible refine sat_brT ?_ ?_); rfl; conv => arg 3; whnf) | ((with_reducible refine sat_brF ?_ ?_); rfl; conv => arg 3; whnf) | ((with_reducible refine sat_eqv ?_ ?_); rfl; conv => arg 3; whnf))
                    refine sat_rng (wrap64 (by omega) (by omega)) ?_
                    exact sat_ret ⟨⟨k + 1, hk, sub_skip hv hu (by intro e; cases e; exact hne rfl) sub⟩, rfl, rfl, by show T.length - (k + 1) < T.length - k; omega⟩
                  · have hne : u = v := by simpa using hne
                    (conv => arg 3; whnf); repeat (first | ((with_reducible refine sat_brT ?_ ?_); rfl; conv => arg 3; whnf) | ((with_reducible refine sat_brF ?_ ?_); rfl; conv => arg 3; whnf) | ((with_reducible refine sat_eqv ?_ ?_); rfl; conv => arg 3; whnf))
                    refine sat_ret ?_
                    exact ⟨k, rfl, rfl, rfl, by rw [hu, hv, hne], hk, sub⟩
                · rintro ex fr' H' ⟨k, rfl, rfl, rfl, hk, hkt, sub⟩
                  rw [hv] at hk
                  (conv => arg 3; whnf); repeat (first | ((with_reducible refine sat_brT ?_ ?_); rfl; conv => arg 3; whnf) | ((with_reducible refine sat_brF ?_ ?_); rfl; conv => arg 3; whnf) | ((with_reducible refine sat_eqv ?_ ?_); rfl; conv => arg 3; whnf))
                  refine sat_brF (by simp; omega) ?_
                  (conv => arg 3; whnf); repeat (first | ((with_reducible refine sat_brT ?_ ?_); rfl; conv => arg 3; whnf) | ((with_reducible refine sat_brF ?_ ?_); rfl; conv => arg 3; whnf) | ((with_reducible refine sat_eqv ?_ ?_); rfl; conv => arg 3; whnf))
                  refine sat_rng (wrap64 (by omega) (by omega)) ?_
                  (conv => arg 3; whnf); repeat (first | ((with_reducible refine sat_brT ?_ ?_); rfl; conv => arg 3; whnf) | ((with_reducible refine sat_brF ?_ ?_); rfl; conv => arg 3; whnf) | ((with_reducible refine sat_eqv ?_ ?_); rfl; conv => arg 3; whnf))
                  refine sat_rng (wrap64 (by omega) (by omega)) ?_
                  exact sat_ret ⟨⟨j + 1, k + 1, hj, hkt, sub_next hv hk sub⟩, rfl, rfl, by show d.c.length - (j + 1) < d.c.length - j; omega⟩
              · (conv => arg 3; whnf); repeat (first | ((with_reducible refine sat_brT ?_ ?_); rfl; conv => arg 3; whnf) | ((with_reducible refine sat_brF ?_ ?_); rfl; conv => arg 3; whnf) | ((with_reducible refine sat_eqv ?_ ?_); rfl; conv => arg 3; whnf))
                refine sat_ret ?_
                exact ⟨rfl, rfl, rfl⟩
            · rintro ex fr' H' ⟨rfl, rfl, rfl⟩
              (conv => arg 3; whnf); repeat (first | ((with_reducible refine sat_brT ?_ ?_); rfl; conv => arg 3; whnf) | ((with_reducible refine sat_brF ?_ ?_); rfl; conv => arg 3; whnf) | ((with_reducible refine sat_eqv ?_ ?_); rfl; conv => arg 3; whnf))
              refine sat_call k_wakes ?_
              rintro r H' ⟨rfl, rfl⟩
              (conv => arg 3; whnf); repeat (first | ((with_reducible refine sat_brT ?_ ?_); rfl; conv => arg 3; whnf) | ((with_reducible refine sat_brF ?_ ?_); rfl; conv => arg 3; whnf) | ((with_reducible refine sat_eqv ?_ ?_); rfl; conv => arg 3; whnf))
              exact sat_ret rfl
end Stk
