/- The log's calls. -/
import Derived.Test.YtmcdljgpalejaaaW7
namespace Stk
open Go
set_option maxRecDepth 100000
set_option linter.unusedSimpArgs false
set_option linter.unusedVariables false
set_option maxHeartbeats 4000000
def Lg.tell (w : Lg) (q : Dk × Int) : Lg := { w with d := q.1, over := w.over || (q.2 == 9) }
def Lg.apd (w : Lg) (xs : List Tr) : Lg × Int :=
  if (w.rdy (decide ((xs.length : Int) > 1048576))).2 ≠ 0 then w.rdy (decide ((xs.length : Int) > 1048576)) else
  if (w.d.append (formB xs)).2 = 0 then ({ w.chk.tell (w.d.append (formB xs)) with R := w.R ++ [xs], size := w.size + (4 + (xs.length : Int)) }, 0) else (w.chk.tell (w.d.append (formB xs)), (w.d.append (formB xs)).2)
def Lg.syn (w : Lg) : Lg × Int := if (w.rdy false).2 ≠ 0 then w.rdy false else (w.chk.tell w.d.sync, w.d.sync.2)
def Lg.rep (w : Lg) (Q : List (List Tr)) : Lg × Int :=
  if (w.rdy (Rlong Q)).2 ≠ 0 then w.rdy (Rlong Q) else
  if (w.d.replace (formsL Q)).2 = 0 then ({ w.chk.tell (w.d.replace (formsL Q)) with R := Q, size := (formsL Q).length }, 0) else (w.chk.tell (w.d.replace (formsL Q)), (w.d.replace (formsL Q)).2)
theorem rdy_cases (w : Lg) (lg : Bool) : (w.rdy lg).2 ≠ 0 ∨ ((w.rdy lg).2 = 0 ∧ lg = false ∧ (w.rdy lg).1 = w.chk) := by
  unfold Lg.rdy
  cases lg
  · cases h : w.chk.over
    · exact .inr (by simp)
    · exact .inl (by simp)
  · exact .inl (by simp)
theorem k_wsync (w : Lg) (hd : w.d.OK) : ACalls PP GG F.wal_Wal_Sync [pt 0] w.H fun r H' => r = ti w.syn.2 ∧ H' = w.syn.1.H' := by
  refine K.wal_Wal_Sync.callsC rfl ?_
  (conv => arg 3; whnf); repeat (first | ((with_reducible refine sat_brT ?_ ?_); rfl; conv => arg 3; whnf) | ((with_reducible refine sat_brF ?_ ?_); rfl; conv => arg 3; whnf) | ((with_reducible refine sat_eqv ?_ ?_); rfl; conv => arg 3; whnf))
  refine sat_call (k_ready0 w) ?_
  rintro r H' ⟨rfl, rfl⟩
  rcases rdy_cases w false with h | ⟨h, -, h2⟩
  · (conv => arg 3; whnf); repeat (first | ((with_reducible refine sat_brT ?_ ?_); rfl; conv => arg 3; whnf) | ((with_reducible refine sat_brF ?_ ?_); rfl; conv => arg 3; whnf) | ((with_reducible refine sat_eqv ?_ ?_); rfl; conv => arg 3; whnf))
    refine sat_brT (by simpa using h) ?_
    (conv => arg 3; whnf); repeat (first | ((with_reducible refine sat_brT ?_ ?_); rfl; conv => arg 3; whnf) | ((with_reducible refine sat_brF ?_ ?_); rfl; conv => arg 3; whnf) | ((with_reducible refine sat_eqv ?_ ?_); rfl; conv => arg 3; whnf))
    exact sat_ret ⟨by unfold Lg.syn; rw [if_pos h], by unfold Lg.syn; rw [if_pos h]⟩
  · rw [h, h2]
    (conv => arg 3; whnf); repeat (first | ((with_reducible refine sat_brT ?_ ?_); rfl; conv => arg 3; whnf) | ((with_reducible refine sat_brF ?_ ?_); rfl; conv => arg 3; whnf) | ((with_reducible refine sat_eqv ?_ ?_); rfl; conv => arg 3; whnf))
    refine sat_call (k_sync w.d hd) ?_
    rintro r H' ⟨rfl, rfl⟩
    (conv => arg 3; whnf); repeat (first | ((with_reducible refine sat_brT ?_ ?_); rfl; conv => arg 3; whnf) | ((with_reducible refine sat_brF ?_ ?_); rfl; conv => arg 3; whnf) | ((with_reducible refine sat_eqv ?_ ?_); rfl; conv => arg 3; whnf))
    refine sat_call (k_told { w.chk with d := w.d.sync.1 } w.d.sync.2) ?_
    rintro r H' ⟨rfl, rfl⟩
    (conv => arg 3; whnf); repeat (first | ((with_reducible refine sat_brT ?_ ?_); rfl; conv => arg 3; whnf) | ((with_reducible refine sat_brF ?_ ?_); rfl; conv => arg 3; whnf) | ((with_reducible refine sat_eqv ?_ ?_); rfl; conv => arg 3; whnf))
    exact sat_ret ⟨by unfold Lg.syn; rw [if_neg (by simp [h])], by unfold Lg.syn; rw [if_neg (by simp [h])]; rfl⟩
theorem k_wappend (w : Lg) (hd : w.d.OK) (xs : List Tr) (hx : xs.length ≤ 2 ^ 40) (hR : w.R.length ≤ 2 ^ 40) (hs : -1152921504606846976 ≤ w.size ∧ w.size ≤ 1152921504606846976) : ACalls PP GG F.wal_Wal_Append [pt 0, .bz 1 xs] w.H fun r H' => r = ti (w.apd xs).2 ∧ H' = (w.apd xs).1.H' := by
  refine K.wal_Wal_Append.callsC rfl ?_
  (conv => arg 3; whnf); repeat (first | ((with_reducible refine sat_brT ?_ ?_); rfl; conv => arg 3; whnf) | ((with_reducible refine sat_brF ?_ ?_); rfl; conv => arg 3; whnf) | ((with_reducible refine sat_eqv ?_ ?_); rfl; conv => arg 3; whnf))
  refine sat_call (k_ready1 w xs) ?_
  rintro r H' ⟨rfl, v, hv, rfl⟩
  have hl := rdy_cases w (decide ((xs.length : Int) > 1048576))
  have hap : w.apd xs = if (w.rdy (decide ((xs.length : Int) > 1048576))).2 ≠ 0 then w.rdy (decide ((xs.length : Int) > 1048576)) else
    if (w.d.append (formB xs)).2 = 0 then ({ w.chk.tell (w.d.append (formB xs)) with R := w.R ++ [xs], size := w.size + (4 + (xs.length : Int)) }, 0) else (w.chk.tell (w.d.append (formB xs)), (w.d.append (formB xs)).2) := rfl
  rw [hap]
  generalize hlg : decide ((xs.length : Int) > 1048576) = lg at *
  rcases hl with h | ⟨h, hlg2, h2⟩
  · (conv => arg 3; whnf); repeat (first | ((with_reducible refine sat_brT ?_ ?_); rfl; conv => arg 3; whnf) | ((with_reducible refine sat_brF ?_ ?_); rfl; conv => arg 3; whnf) | ((with_reducible refine sat_eqv ?_ ?_); rfl; conv => arg 3; whnf))
    refine sat_brT (by simpa using h) ?_
    (conv => arg 3; whnf); repeat (first | ((with_reducible refine sat_brT ?_ ?_); rfl; conv => arg 3; whnf) | ((with_reducible refine sat_brF ?_ ?_); rfl; conv => arg 3; whnf) | ((with_reducible refine sat_eqv ?_ ?_); rfl; conv => arg 3; whnf))
    rw [if_pos h]
    exact sat_ret ⟨rfl, by rw [hv]⟩
  · subst hlg2
    have hxl : xs.length ≤ 1048576 := by have := of_decide_eq_false hlg; omega
    have hfl := formB_len xs
    rw [if_neg (by simp [h]), h]
    rw [h2] at hv
    subst hv
    (conv => arg 3; whnf); repeat (first | ((with_reducible refine sat_brT ?_ ?_); rfl; conv => arg 3; whnf) | ((with_reducible refine sat_brF ?_ ?_); rfl; conv => arg 3; whnf) | ((with_reducible refine sat_eqv ?_ ?_); rfl; conv => arg 3; whnf))
    refine sat_call (k_forms1 xs hxl) ?_
    rintro r H' ⟨rfl, rfl⟩
    (conv => arg 3; whnf); repeat (first | ((with_reducible refine sat_brT ?_ ?_); rfl; conv => arg 3; whnf) | ((with_reducible refine sat_brF ?_ ?_); rfl; conv => arg 3; whnf) | ((with_reducible refine sat_eqv ?_ ?_); rfl; conv => arg 3; whnf))
    rw [List.drop_zero, List.take_length]
    refine sat_call (k_append w.d hd (formB xs) (by omega)) ?_
    rintro r H' ⟨rfl, rfl⟩
    (conv => arg 3; whnf); repeat (first | ((with_reducible refine sat_brT ?_ ?_); rfl; conv => arg 3; whnf) | ((with_reducible refine sat_brF ?_ ?_); rfl; conv => arg 3; whnf) | ((with_reducible refine sat_eqv ?_ ?_); rfl; conv => arg 3; whnf))
    refine sat_call (k_told { w.chk with d := (w.d.append (formB xs)).1 } (w.d.append (formB xs)).2) ?_
    rintro r H' ⟨rfl, rfl⟩
    have hut : ({ w.chk with d := (w.d.append (formB xs)).1, over := w.chk.over || ((w.d.append (formB xs)).2 == 9) } : Lg) = w.chk.tell (w.d.append (formB xs)) := rfl
    generalize w.d.append (formB xs) = q at *
    obtain ⟨d', e⟩ := q
    by_cases he : e = 0
    · subst he
      rw [if_pos rfl]
      (conv => arg 3; whnf); repeat (first | ((with_reducible refine sat_brT ?_ ?_); rfl; conv => arg 3; whnf) | ((with_reducible refine sat_brF ?_ ?_); rfl; conv => arg 3; whnf) | ((with_reducible refine sat_eqv ?_ ?_); rfl; conv => arg 3; whnf))
      refine sat_call (k_clone xs (by omega)) ?_
      rintro r H' ⟨rfl, rfl⟩
      (conv => arg 3; whnf); repeat (first | ((with_reducible refine sat_brT ?_ ?_); rfl; conv => arg 3; whnf) | ((with_reducible refine sat_brF ?_ ?_); rfl; conv => arg 3; whnf) | ((with_reducible refine sat_eqv ?_ ?_); rfl; conv => arg 3; whnf))
      rw [List.drop_zero, List.take_length]
      refine sat_asrt (by simp [Lg.chk]) ?_
      refine sat_asrt (by simp [roomy, Lg.chk]; omega) ?_
      refine sat_brT (by simp [Lg.chk]) ?_
      (conv => arg 3; whnf); repeat (first | ((with_reducible refine sat_brT ?_ ?_); rfl; conv => arg 3; whnf) | ((with_reducible refine sat_brF ?_ ?_); rfl; conv => arg 3; whnf) | ((with_reducible refine sat_eqv ?_ ?_); rfl; conv => arg 3; whnf))
      refine sat_rng (wrap64 (by omega) (by omega)) ?_
      (conv => arg 3; whnf); repeat (first | ((with_reducible refine sat_brT ?_ ?_); rfl; conv => arg 3; whnf) | ((with_reducible refine sat_brF ?_ ?_); rfl; conv => arg 3; whnf) | ((with_reducible refine sat_eqv ?_ ?_); rfl; conv => arg 3; whnf))
      refine sat_rng (n := w.size + (4 + (xs.length : Int))) (wrap64 (by omega) (by omega)) ?_
      (conv => arg 3; whnf); repeat (first | ((with_reducible refine sat_brT ?_ ?_); rfl; conv => arg 3; whnf) | ((with_reducible refine sat_brF ?_ ?_); rfl; conv => arg 3; whnf) | ((with_reducible refine sat_eqv ?_ ?_); rfl; conv => arg 3; whnf))
      refine sat_ret ⟨rfl, ?_⟩
      have e2 : (w.R.map rx) ++ [rx xs] = (w.R ++ [xs]).map rx := by simp
      show [AO.var (.agg [pt 1, .sl 5 0 [] 0 ((w.R.map rx) ++ [rx xs]).length none, ti (w.size + (4 + (xs.length : Int))), tb (w.chk.over || false)]), _, _, _, _, AO.row 1 ((w.R.map rx) ++ [rx xs])] = _
      rw [e2, List.length_map]
      rfl
    · rw [if_neg he]
      (conv => arg 3; whnf); repeat (first | ((with_reducible refine sat_brT ?_ ?_); rfl; conv => arg 3; whnf) | ((with_reducible refine sat_brF ?_ ?_); rfl; conv => arg 3; whnf) | ((with_reducible refine sat_eqv ?_ ?_); rfl; conv => arg 3; whnf))
      refine sat_brF (by simpa using he) ?_
      (conv => arg 3; whnf); repeat (first | ((with_reducible refine sat_brT ?_ ?_); rfl; conv => arg 3; whnf) | ((with_reducible refine sat_brF ?_ ?_); rfl; conv => arg 3; whnf) | ((with_reducible refine sat_eqv ?_ ?_); rfl; conv => arg 3; whnf))
      exact sat_ret ⟨rfl, rfl⟩
structure ReSt (Q : List (List Tr)) where
  i : Nat
  le : i ≤ Q.length
theorem k_wreplace (w : Lg) (hd : w.d.OK) (Q : List (List Tr)) (hQ : AllB (formsL Q)) (hQb : ∀ x ∈ Q, AllB x) (hl : (formsL Q).length ≤ 2 ^ 40) : ACalls PP GG F.wal_Wal_Replace [pt 0, .bz 1 (Q.map rx)] w.H fun r H' => r = ti (w.rep Q).2 ∧ H' = (w.rep Q).1.H' := by
  have hlen := formsL_len Q
  refine K.wal_Wal_Replace.callsC rfl ?_
  (conv => arg 3; whnf); repeat (first | ((with_reducible refine sat_brT ?_ ?_); rfl; conv => arg 3; whnf) | ((with_reducible refine sat_brF ?_ ?_); rfl; conv => arg 3; whnf) | ((with_reducible refine sat_eqv ?_ ?_); rfl; conv => arg 3; whnf))
  refine sat_call (k_readyR w Q (by omega)) ?_
  rintro r H' ⟨rfl, rfl⟩
  have hl2 := rdy_cases w (Rlong Q)
  have hap : w.rep Q = if (w.rdy (Rlong Q)).2 ≠ 0 then w.rdy (Rlong Q) else
    if (w.d.replace (formsL Q)).2 = 0 then ({ w.chk.tell (w.d.replace (formsL Q)) with R := Q, size := (formsL Q).length }, 0) else (w.chk.tell (w.d.replace (formsL Q)), (w.d.replace (formsL Q)).2) := rfl
  rw [hap]
  generalize hlg : Rlong Q = lg at *
  rcases hl2 with h | ⟨h, hlg2, h2⟩
  · (conv => arg 3; whnf); repeat (first | ((with_reducible refine sat_brT ?_ ?_); rfl; conv => arg 3; whnf) | ((with_reducible refine sat_brF ?_ ?_); rfl; conv => arg 3; whnf) | ((with_reducible refine sat_eqv ?_ ?_); rfl; conv => arg 3; whnf))
    refine sat_brT (by simpa using h) ?_
    (conv => arg 3; whnf); repeat (first | ((with_reducible refine sat_brT ?_ ?_); rfl; conv => arg 3; whnf) | ((with_reducible refine sat_brF ?_ ?_); rfl; conv => arg 3; whnf) | ((with_reducible refine sat_eqv ?_ ?_); rfl; conv => arg 3; whnf))
    rw [if_pos h]
    exact sat_ret ⟨rfl, rfl⟩
  · subst hlg2
    have hQ2 : AllR Q := by
      intro x hx
      refine ⟨hQb x hx, ?_⟩
      have h1 : ∀ x ∈ Q, ¬ decide ((x.length : Int) > 1048576) = true := List.any_eq_false.1 hlg
      have := h1 x hx
      simp at this
      omega
    rw [if_neg (by simp [h]), h, h2]
    (conv => arg 3; whnf); repeat (first | ((with_reducible refine sat_brT ?_ ?_); rfl; conv => arg 3; whnf) | ((with_reducible refine sat_brF ?_ ?_); rfl; conv => arg 3; whnf) | ((with_reducible refine sat_eqv ?_ ?_); rfl; conv => arg 3; whnf))
    refine sat_call (k_formsR Q hQ2 hl) ?_
    rintro r H' ⟨rfl, rfl⟩
    (conv => arg 3; whnf); repeat (first | ((with_reducible refine sat_brT ?_ ?_); rfl; conv => arg 3; whnf) | ((with_reducible refine sat_brF ?_ ?_); rfl; conv => arg 3; whnf) | ((with_reducible refine sat_eqv ?_ ?_); rfl; conv => arg 3; whnf))
    rw [List.drop_zero, List.take_length]
    refine sat_call (k_replace w.d hd (formsL Q) (by omega)) ?_
    rintro r H' ⟨rfl, rfl⟩
    (conv => arg 3; whnf); repeat (first | ((with_reducible refine sat_brT ?_ ?_); rfl; conv => arg 3; whnf) | ((with_reducible refine sat_brF ?_ ?_); rfl; conv => arg 3; whnf) | ((with_reducible refine sat_eqv ?_ ?_); rfl; conv => arg 3; whnf))
    refine sat_call (k_told { w.chk with d := (w.d.replace (formsL Q)).1 } (w.d.replace (formsL Q)).2) ?_
    rintro r H' ⟨rfl, rfl⟩
    generalize w.d.replace (formsL Q) = q at *
    obtain ⟨d', e⟩ := q
    by_cases he : e = 0
    · subst he
      rw [if_pos rfl]
      obtain ⟨ov, hov⟩ : ∃ b, b = (w.chk.over || ((0 : Int) == 9)) := ⟨_, rfl⟩
      (conv => arg 3; whnf); repeat (first | ((with_reducible refine sat_brT ?_ ?_); rfl; conv => arg 3; whnf) | ((with_reducible refine sat_brF ?_ ?_); rfl; conv => arg 3; whnf) | ((with_reducible refine sat_eqv ?_ ?_); rfl; conv => arg 3; whnf))
      refine sat_loopOf mkX_ops (σ := ReSt Q) (fun x => [(0, pt 0), (7, ti 0), (36, .bz 1 (Q.map rx)), (37, ti (Q.map rx).length), (38, ti x.i)]) (fun x => Lg.H ⟨d', Q.take x.i, (formsL Q).length, w.chk.over || ((0 : Int) == 9)⟩) (fun x => Q.length - x.i)
        (fun ex fr' H' => H' = Lg.H ⟨d', Q, (formsL Q).length, w.chk.over || ((0 : Int) == 9)⟩ ∧ ex = .exit 0 ∧ fr' = [(7, ti 0)]) ⟨0, Nat.zero_le _⟩ ?_ ?_
      · rintro ⟨i, hi⟩
        dsimp only
        rw [← hov]
        refine sat_br (fun h => ?_) (fun h => ?_)
        · have h : i < Q.length := by simpa using h
          have hu : Q[i]? = some Q[i] := List.getElem?_eq_getElem h
          generalize Q[i] = u at *
          have hul := (hQ2 _ (List.mem_of_getElem? hu)).2
          (conv => arg 3; whnf); repeat (first | ((with_reducible refine sat_brT ?_ ?_); rfl; conv => arg 3; whnf) | ((with_reducible refine sat_brF ?_ ?_); rfl; conv => arg 3; whnf) | ((with_reducible refine sat_eqv ?_ ?_); rfl; conv => arg 3; whnf))
          refine sat_idx (rx u) (by simp) (by simpa using get_rx hu) ?_
          (conv => arg 3; whnf); repeat (first | ((with_reducible refine sat_brT ?_ ?_); rfl; conv => arg 3; whnf) | ((with_reducible refine sat_brF ?_ ?_); rfl; conv => arg 3; whnf) | ((with_reducible refine sat_eqv ?_ ?_); rfl; conv => arg 3; whnf))
          refine sat_call (k_clone u (by omega)) ?_
          rintro r H' ⟨rfl, rfl⟩
          (conv => arg 3; whnf); repeat (first | ((with_reducible refine sat_brT ?_ ?_); rfl; conv => arg 3; whnf) | ((with_reducible refine sat_brF ?_ ?_); rfl; conv => arg 3; whnf) | ((with_reducible refine sat_eqv ?_ ?_); rfl; conv => arg 3; whnf))
          rw [List.drop_zero, List.take_length]
          refine sat_asrt (by simp) ?_
          refine sat_asrt (by simp [roomy]; omega) ?_
          refine sat_brT (by simp) ?_
          (conv => arg 3; whnf); repeat (first | ((with_reducible refine sat_brT ?_ ?_); rfl; conv => arg 3; whnf) | ((with_reducible refine sat_brF ?_ ?_); rfl; conv => arg 3; whnf) | ((with_reducible refine sat_eqv ?_ ?_); rfl; conv => arg 3; whnf))
          refine sat_rng (wrap64 (by omega) (by omega)) ?_
          have e2 : (Q.take i).map rx ++ [rx u] = (Q.take (i + 1)).map rx := by rw [take_succ_get hu, List.map_append]; rfl
          refine sat_ret ⟨⟨i + 1, by omega⟩, rfl, ?_, by show Q.length - (i + 1) < Q.length - i; omega⟩
          show [AO.var (.agg [pt 1, .sl 3 0 [] 0 ((Q.take i).map rx ++ [rx u]).length none, ti (formsL Q).length, tb ov]), _, _, AO.row 1 ((Q.take i).map rx ++ [rx u])] = _
          rw [e2, List.length_map]
        · have h : ¬ i < Q.length := by simpa using h
          rw [List.take_of_length_le (by omega)]
          exact sat_ret ⟨rfl, rfl, rfl⟩
      · rintro ex fr' H' ⟨rfl, rfl, rfl⟩
        (conv => arg 3; whnf); repeat (first | ((with_reducible refine sat_brT ?_ ?_); rfl; conv => arg 3; whnf) | ((with_reducible refine sat_brF ?_ ?_); rfl; conv => arg 3; whnf) | ((with_reducible refine sat_eqv ?_ ?_); rfl; conv => arg 3; whnf))
        exact sat_ret ⟨rfl, rfl⟩
    · rw [if_neg he]
      (conv => arg 3; whnf); repeat (first | ((with_reducible refine sat_brT ?_ ?_); rfl; conv => arg 3; whnf) | ((with_reducible refine sat_brF ?_ ?_); rfl; conv => arg 3; whnf) | ((with_reducible refine sat_eqv ?_ ?_); rfl; conv => arg 3; whnf))
      refine sat_brF (by simpa using he) ?_
      (conv => arg 3; whnf); repeat (first | ((with_reducible refine sat_brT ?_ ?_); rfl; conv => arg 3; whnf) | ((with_reducible refine sat_brF ?_ ?_); rfl; conv => arg 3; whnf) | ((with_reducible refine sat_eqv ?_ ?_); rfl; conv => arg 3; whnf))
      exact sat_ret ⟨rfl, rfl⟩
end Stk
