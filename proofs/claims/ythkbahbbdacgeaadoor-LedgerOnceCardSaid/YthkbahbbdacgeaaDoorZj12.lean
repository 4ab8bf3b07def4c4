/- Several texts of this claim, joined into one file. -/
import Derived.Test.YthkbahbbdacgeaaDoorZj11
section
/- The ledger: two of them held against each other; a client's last request. -/
namespace Stk
open Go
set_option maxRecDepth 100000
set_option linter.unusedSimpArgs false
set_option linter.unusedVariables false
set_option maxHeartbeats 4000000
theorem ep_fit_ok {L : List Ep} (h : ∀ e ∈ L, HF e.hash ∧ e.yes.length = 4) {i : Nat} {u : Ep} (hu : L[i]? = some u) : Tr.fits u.t (.agg [.arr 32 (.int .u8), .int .i64, .arr 4 .bool]) = true :=
  ep_fits (h u (List.mem_of_getElem? hu)).1 (h u (List.mem_of_getElem? hu)).2
theorem eqbs_take {A B : List Ep} {i : Nat} {x y : Ep} (hx : A[i]? = some x) (hy : B[i]? = some y) : Tr.eqbs ((A.drop i).map Ep.t) ((B.drop i).map Ep.t) = (x.t.eqb y.t && Tr.eqbs ((A.drop (i + 1)).map Ep.t) ((B.drop (i + 1)).map Ep.t)) := by
  rw [List.map_drop, List.map_drop, List.map_drop, List.map_drop]
  exact eqbs_drop (by rw [List.getElem?_map, hx]; rfl) (by rw [List.getElem?_map, hy]; rfl)
theorem eqbs_len : ∀ {a b : List Tr}, Tr.eqbs a b = true → a.length = b.length
  | [], [], _ => rfl
  | [], _ :: _, h => by simp [Tr.eqbs] at h
  | _ :: _, [], h => by simp [Tr.eqbs] at h
  | x :: a, y :: b, h => by
    simp only [Tr.eqbs, Bool.and_eq_true] at h
    simp [eqbs_len h.2]
theorem k_eequal (A B : List Ep) (hA : ∀ e ∈ A, HF e.hash ∧ e.yes.length = 4) (hB : ∀ e ∈ B, HF e.hash ∧ e.yes.length = 4) (hAl : A.length ≤ 2 ^ 20) (hBl : B.length ≤ 2 ^ 20) :
    ACalls PP GG F.slices_Equal_ledger_Epoch_ledger_Epoch [.bz 37 (A.map Ep.t), .bz 37 (B.map Ep.t)] [] fun r H' => r = tb (Tr.eqbs (A.map Ep.t) (B.map Ep.t)) ∧ H' = [] := by
  refine K.slices_Equal_ledger_Epoch_ledger_Epoch.callsC rfl ?_
  (conv => arg 3; whnf); repeat ((first | (with_reducible apply sT); rfl | (with_reducible apply sF); rfl | (with_reducible apply sE); rfl); conv => arg 3; whnf)
  have ea : (A.map Ep.t).length = A.length := by simp
  have eb : (B.map Ep.t).length = B.length := by simp
  refine sat_br (fun h1 => ?_) (fun h1 => ?_)
  · have h1 : A.length ≠ B.length := by
      have : ((A.map Ep.t).length : Int) ≠ (B.map Ep.t).length := by simpa using h1
      omega
    (conv => arg 3; whnf); repeat ((first | (with_reducible apply sT); rfl | (with_reducible apply sF); rfl | (with_reducible apply sE); rfl); conv => arg 3; whnf)
    refine sat_ret ⟨?_, rfl⟩
    have : Tr.eqbs (A.map Ep.t) (B.map Ep.t) = false := by
      cases h : Tr.eqbs (A.map Ep.t) (B.map Ep.t) with
      | false => rfl
      | true => have := eqbs_len h; omega
    rw [this]
  · have h1 : A.length = B.length := by
      have : ((A.map Ep.t).length : Int) = (B.map Ep.t).length := by simpa using h1
      omega
    (conv => arg 3; whnf); repeat ((first | (with_reducible apply sT); rfl | (with_reducible apply sF); rfl | (with_reducible apply sE); rfl); conv => arg 3; whnf)
    rw [ea]
    refine sat_loopOf mkX_ops (σ := { i : Nat // i ≤ A.length ∧ Tr.eqbs (A.map Ep.t) (B.map Ep.t) = Tr.eqbs ((A.drop i).map Ep.t) ((B.drop i).map Ep.t) }) (fun x => [(0, .bz 37 (A.map Ep.t)), (1, .bz 37 (B.map Ep.t)), (12, ti A.length), (13, ti x.1)]) (fun _ => []) (fun x => A.length - x.1)
      (fun ex fr' H' => (ex = .ret ∧ fr' = [(4, tb false)] ∧ H' = [] ∧ Tr.eqbs (A.map Ep.t) (B.map Ep.t) = false) ∨ (ex = .exit 0 ∧ fr' = [(4, .undef)] ∧ H' = [] ∧ Tr.eqbs (A.map Ep.t) (B.map Ep.t) = true)) ⟨0, Nat.zero_le _, rfl⟩ ?_ ?_
    · rintro ⟨i, hi, he⟩
      dsimp only
      (conv => arg 3; whnf); repeat ((first | (with_reducible apply sT); rfl | (with_reducible apply sF); rfl | (with_reducible apply sE); rfl); conv => arg 3; whnf)
      refine sat_br (fun h => ?_) (fun h => ?_)
      rotate_left
      · have h : i = A.length := by have := of_decide_eq_false h; omega
        (conv => arg 3; whnf); repeat ((first | (with_reducible apply sT); rfl | (with_reducible apply sF); rfl | (with_reducible apply sE); rfl); conv => arg 3; whnf)
        refine sat_ret (.inr ⟨rfl, rfl, rfl, ?_⟩)
        rw [he, List.drop_eq_nil_of_le (by omega), List.drop_eq_nil_of_le (by omega)]; rfl
      have h : i < A.length := by have := of_decide_eq_true h; omega
      have hu := List.getElem?_eq_getElem (l := A) (i := i) h
      have hv := List.getElem?_eq_getElem (l := B) (i := i) (by omega)
      generalize A[i] = u at hu
      generalize B[i] = v at hv
      rw [eqbs_take hu hv] at he
      have hut : (A.map Ep.t)[i]? = some u.t := by rw [List.getElem?_map, hu]; rfl
      have hvt : (B.map Ep.t)[i]? = some v.t := by rw [List.getElem?_map, hv]; rfl
      (conv => arg 3; whnf); repeat ((first | (with_reducible apply sT); rfl | (with_reducible apply sF); rfl | (with_reducible apply sE); rfl); conv => arg 3; whnf)
      refine sat_idx u.t (by omega) (by rw [Int.toNat_natCast]; exact hut) ?_
      (conv => arg 3; whnf); repeat ((first | (with_reducible apply sT); rfl | (with_reducible apply sF); rfl | (with_reducible apply sE); rfl); conv => arg 3; whnf)
      refine sat_idx v.t (by omega) (by rw [Int.toNat_natCast]; exact hvt) ?_
      (conv => arg 3; whnf); repeat ((first | (with_reducible apply sT); rfl | (with_reducible apply sF); rfl | (with_reducible apply sE); rfl); conv => arg 3; whnf)
      refine sat_asrt (by rw [ep_fit_ok hA hu, ep_fit_ok hB hv]; rfl) ?_
      (conv => arg 3; whnf); repeat ((first | (with_reducible apply sT); rfl | (with_reducible apply sF); rfl | (with_reducible apply sE); rfl); conv => arg 3; whnf)
      refine sat_br (fun hc => ?_) (fun hc => ?_)
      · (conv => arg 3; whnf); repeat ((first | (with_reducible apply sT); rfl | (with_reducible apply sF); rfl | (with_reducible apply sE); rfl); conv => arg 3; whnf)
        have hc : u.t.eqb v.t = false := by simpa [nb] using hc
        refine sat_ret (.inl ⟨rfl, rfl, rfl, ?_⟩)
        rw [he, hc]; rfl
      · (conv => arg 3; whnf); repeat ((first | (with_reducible apply sT); rfl | (with_reducible apply sF); rfl | (with_reducible apply sE); rfl); conv => arg 3; whnf)
        have hc : u.t.eqb v.t = true := by simpa [nb] using hc
        refine sat_rng (wrap64 (by omega) (by omega)) ?_
        (conv => arg 3; whnf); repeat ((first | (with_reducible apply sT); rfl | (with_reducible apply sF); rfl | (with_reducible apply sE); rfl); conv => arg 3; whnf)
        exact sat_ret ⟨⟨i + 1, by omega, by rw [he, hc, Bool.true_and]⟩, rfl, rfl, by show A.length - (i + 1) < A.length - i; omega⟩
    · rintro ex fr' H' (⟨rfl, rfl, rfl, h⟩ | ⟨rfl, rfl, rfl, h⟩)
      · (conv => arg 3; whnf); repeat ((first | (with_reducible apply sT); rfl | (with_reducible apply sF); rfl | (with_reducible apply sE); rfl); conv => arg 3; whnf)
        exact sat_ret ⟨by rw [h], rfl⟩
      · (conv => arg 3; whnf); repeat ((first | (with_reducible apply sT); rfl | (with_reducible apply sF); rfl | (with_reducible apply sE); rfl); conv => arg 3; whnf)
        exact sat_ret ⟨by rw [h], rfl⟩
theorem k_lastq (l : Lg) (hn : 0 < l.nodes) (k : Int) (hk : 1 ≤ k ∧ k ≤ 4) : ACalls PP GG F.ledger_Ledger_Last [pt 0, ti k] l.H fun r H' => r = .tup [ti (l.q k).seq, (l.q k).r.a] ∧ H' = l.D := by
  have km := k_made l hn
  obtain ⟨nodes, im, eps, q1, q2, q3, q4⟩ := l
  dsimp only [Lg.H, Lg.D, Lg.v] at *
  have h4 : k = 1 ∨ k = 2 ∨ k = 3 ∨ k = 4 := by omega
  rcases h4 with rfl | rfl | rfl | rfl
  all_goals
    refine K.ledger_Ledger_Last.callsC rfl ?_
    (conv => arg 3; whnf); repeat ((first | (with_reducible apply sT); rfl | (with_reducible apply sF); rfl | (with_reducible apply sE); rfl); conv => arg 3; whnf)
    refine sat_call km ?_
    rintro r H' ⟨rfl, rfl⟩
    (conv => arg 3; whnf); repeat ((first | (with_reducible apply sT); rfl | (with_reducible apply sF); rfl | (with_reducible apply sE); rfl); conv => arg 3; whnf)
    repeat (first
      | ((with_reducible refine sat_rng ?_ ?_); (exact wrap64 (by omega) (by omega)); (conv => arg 3; whnf); repeat ((first | (with_reducible apply sT); rfl | (with_reducible apply sF); rfl | (with_reducible apply sE); rfl); conv => arg 3; whnf))
      | ((with_reducible refine sat_asrt ?_ ?_); decide; (conv => arg 3; whnf); repeat ((first | (with_reducible apply sT); rfl | (with_reducible apply sF); rfl | (with_reducible apply sE); rfl); conv => arg 3; whnf)))
    exact sat_ret ⟨rfl, rfl⟩
end Stk
end

section
/- The ledger: two of them held against each other. -/
namespace Stk
open Go
set_option maxRecDepth 100000
set_option linter.unusedSimpArgs false
set_option linter.unusedVariables false
set_option maxHeartbeats 4000000
abbrev Lg.w (l : Lg) (m b : Nat) : AV := .agg [ti l.nodes, .mp m, .sl b 0 [] 0 l.eps.length none, .t (.agg [l.q1.t, l.q2.t, l.q3.t, l.q4.t])]
structure SmSt (im im' : List (List Tr × List Tr)) where
  left : List (List Tr × List Tr)
  sub : ∀ p, p ∈ left → p ∈ im
  all : imSub im im' = imSub left im'
  last : Option (Tr × Tr)
theorem k_same (a b : Lg) (ha : OInv a) (hb : OInv b) : ACalls PP GG F.ledger_Same [pt 0, pt 3] [.var (a.w 1 2), .map (imT a.im), .row 37 (a.eps.map Ep.t), .var (b.w 4 5), .map (imT b.im), .row 37 (b.eps.map Ep.t)] fun r H' => r = tb (sameB a b) ∧ H' = [.var (a.w 1 6), .map (imT a.im), .gone, .var (b.w 4 7), .map (imT b.im), .gone, .row 37 (a.eps.map Ep.t), .row 37 (b.eps.map Ep.t)] := by
  have hak := ha.inv.ok.hk
  have hbk := hb.inv.ok.hk
  have hal := ha.inv.ok.he
  have hbl := hb.inv.ok.he
  have ke := k_eequal a.eps b.eps (fun e he => ⟨ha.inv.hf e he, ha.inv.ok.hy e he⟩) (fun e he => ⟨hb.inv.hf e he, hb.inv.ok.hy e he⟩) (by omega) (by omega)
  have fq : ∀ l : Lg, OInv l → Tr.fits (.agg [l.q1.t, l.q2.t, l.q3.t, l.q4.t]) (.agg [rqSh, rqSh, rqSh, rqSh]) = true := fun l h => by
    have h1 := rq_fits h.q1
    have h2 := rq_fits h.q2
    have h3 := rq_fits h.q3
    have h4 := rq_fits h.q4
    show (Tr.fits l.q1.t rqSh && (Tr.fits l.q2.t rqSh && (Tr.fits l.q3.t rqSh && (Tr.fits l.q4.t rqSh && true)))) = true
    rw [h1, h2, h3, h4]; rfl
  have fa := fq a ha
  have fb := fq b hb
  generalize hP : sameB a b = P
  unfold sameB at hP
  obtain ⟨nodes, im, eps, q1, q2, q3, q4⟩ := a
  obtain ⟨nodes', im', eps', q1', q2', q3', q4'⟩ := b
  dsimp only [Lg.w, Lg.qT] at *
  refine K.ledger_Same.callsC rfl ?_
  (conv => arg 3; whnf); repeat ((first | (with_reducible apply sT); rfl | (with_reducible apply sF); rfl | (with_reducible apply sE); rfl); conv => arg 3; whnf)
  have hda : List.take eps.length (List.drop 0 (eps.map Ep.t)) = eps.map Ep.t := by rw [List.drop_zero, List.take_of_length_le (by simp)]
  have hdb : List.take eps'.length (List.drop 0 (eps'.map Ep.t)) = eps'.map Ep.t := by rw [List.drop_zero, List.take_of_length_le (by simp)]
  have eim : (imT im).length = im.length := by simp [imT]
  have eim' : (imT im').length = im'.length := by simp [imT]
  refine sat_br (fun h1 => ?_) (fun h1 => ?_)
  · have h1 : ¬ nodes = nodes' := by simpa using h1
    rw [decide_eq_false h1] at hP
    simp only [Bool.false_and] at hP
    subst hP
    (conv => arg 3; whnf); repeat ((first | (with_reducible apply sT); rfl | (with_reducible apply sF); rfl | (with_reducible apply sE); rfl); conv => arg 3; whnf)
    exact sat_ret ⟨rfl, rfl⟩
  have h1 : nodes = nodes' := by simpa using h1
  rw [decide_eq_true h1, Bool.true_and] at hP
  (conv => arg 3; whnf); repeat ((first | (with_reducible apply sT); rfl | (with_reducible apply sF); rfl | (with_reducible apply sE); rfl); conv => arg 3; whnf)
  refine sat_asrt (by rw [fa, fb]; rfl) ?_
  (conv => arg 3; whnf); repeat ((first | (with_reducible apply sT); rfl | (with_reducible apply sF); rfl | (with_reducible apply sE); rfl); conv => arg 3; whnf)
  refine sat_br (fun h2 => ?_) (fun h2 => ?_)
  · have h2 : Tr.eqbs [q1.t, q2.t, q3.t, q4.t] [q1'.t, q2'.t, q3'.t, q4'.t] = false := by simpa [nb, Tr.eqb] using h2
    rw [h2] at hP
    simp only [Bool.false_and] at hP
    subst hP
    (conv => arg 3; whnf); repeat ((first | (with_reducible apply sT); rfl | (with_reducible apply sF); rfl | (with_reducible apply sE); rfl); conv => arg 3; whnf)
    exact sat_ret ⟨rfl, rfl⟩
  have h2 : Tr.eqbs [q1.t, q2.t, q3.t, q4.t] [q1'.t, q2'.t, q3'.t, q4'.t] = true := by simpa [nb, Tr.eqb] using h2
  rw [h2, Bool.true_and] at hP
  (conv => arg 3; whnf); repeat ((first | (with_reducible apply sT); rfl | (with_reducible apply sF); rfl | (with_reducible apply sE); rfl); conv => arg 3; whnf)
  rw [hda, hdb]
  refine sat_call ke ?_
  rintro r H' ⟨rfl, rfl⟩
  (conv => arg 3; whnf); repeat ((first | (with_reducible apply sT); rfl | (with_reducible apply sF); rfl | (with_reducible apply sE); rfl); conv => arg 3; whnf)
  refine sat_br (fun h3 => ?_) (fun h3 => ?_)
  · have h3 : Tr.eqbs (eps.map Ep.t) (eps'.map Ep.t) = false := by simpa using h3
    rw [h3] at hP
    simp only [Bool.false_and] at hP
    subst hP
    (conv => arg 3; whnf); repeat ((first | (with_reducible apply sT); rfl | (with_reducible apply sF); rfl | (with_reducible apply sE); rfl); conv => arg 3; whnf)
    exact sat_ret ⟨rfl, rfl⟩
  have h3 : Tr.eqbs (eps.map Ep.t) (eps'.map Ep.t) = true := by simpa using h3
  rw [h3, Bool.true_and] at hP
  (conv => arg 3; whnf); repeat ((first | (with_reducible apply sT); rfl | (with_reducible apply sF); rfl | (with_reducible apply sE); rfl); conv => arg 3; whnf)
  refine sat_br (fun h4 => ?_) (fun h4 => ?_)
  · have h4 : ¬ im.length = im'.length := by
      have : ¬ ((imT im).length : Int) = (imT im').length := by simpa using h4
      omega
    rw [decide_eq_false h4] at hP
    simp only [Bool.false_and] at hP
    subst hP
    (conv => arg 3; whnf); repeat ((first | (with_reducible apply sT); rfl | (with_reducible apply sF); rfl | (with_reducible apply sE); rfl); conv => arg 3; whnf)
    exact sat_ret ⟨rfl, rfl⟩
  have h4 : im.length = im'.length := by
    have : ((imT im).length : Int) = (imT im').length := by simpa using h4
    omega
  rw [decide_eq_true h4, Bool.true_and] at hP
  (conv => arg 3; whnf); repeat ((first | (with_reducible apply sT); rfl | (with_reducible apply sF); rfl | (with_reducible apply sE); rfl); conv => arg 3; whnf)
  refine sat_loopOf mkX_ops (σ := SmSt im im') (fun _ => [(1, pt 0), (67, pt 3)])
    (fun x => [.var (.agg [ti nodes', .mp 1, .sl 2 0 [] 0 eps'.length none, .t (.agg [q1'.t, q2'.t, q3'.t, q4'.t])]), .map (imT im'), .row 37 (eps'.map Ep.t), .iter 4 (imT im) (imT x.left) x.last, .mapI (imT im) 3]) (fun x => x.left.length)
    (fun ex fr' H' => (ex = .ret ∧ fr' = [(4, tb false)] ∧ imSub im im' = false ∧ ∃ left last h, H' = [.var (.agg [ti nodes', .mp 1, .sl 2 0 [] 0 eps'.length none, .t (.agg [q1'.t, q2'.t, q3'.t, q4'.t])]), .map (imT im'), .row 37 (eps'.map Ep.t), .iter 4 (imT im) left last, .mapI (imT im) 3, .var (.t (.arr 32 h))]) ∨
      (ex = .exit 0 ∧ fr' = [(4, .undef)] ∧ imSub im im' = true ∧ H' = [.var (.agg [ti nodes', .mp 1, .sl 2 0 [] 0 eps'.length none, .t (.agg [q1'.t, q2'.t, q3'.t, q4'.t])]), .map (imT im'), .row 37 (eps'.map Ep.t), .gone, .map (imT im)])) ⟨im, fun _ h => h, rfl, none⟩ ?_ ?_
  · rintro ⟨left, hsub, hall, last⟩
    dsimp only
    (conv => arg 3; whnf); repeat ((first | (with_reducible apply sT); rfl | (with_reducible apply sF); rfl | (with_reducible apply sE); rfl); conv => arg 3; whnf)
    refine ⟨rfl, fun h => ?_, fun j p hj => ?_⟩
    · have h : left = [] := by simpa [imT] using h
      subst h
      (conv => arg 3; whnf); repeat ((first | (with_reducible apply sT); rfl | (with_reducible apply sF); rfl | (with_reducible apply sE); rfl); conv => arg 3; whnf)
      refine sat_ret (.inr ⟨rfl, rfl, by rw [hall]; rfl, rfl⟩)
    · obtain ⟨h, d, hj2, rfl⟩ := imT_get hj
      have hmem := List.mem_of_getElem? hj2
      have hlt := (List.getElem?_eq_some_iff.1 hj2).1
      have hk := hak (h, d) (hsub _ hmem)
      rw [imT_erase]
      (conv => arg 3; whnf); repeat ((first | (with_reducible apply sT); rfl | (with_reducible apply sF); rfl | (with_reducible apply sE); rfl); conv => arg 3; whnf)
      refine ⟨rfl, ?_⟩
      (conv => arg 3; whnf); repeat ((first | (with_reducible apply sT); rfl | (with_reducible apply sF); rfl | (with_reducible apply sE); rfl); conv => arg 3; whnf)
      refine sat_asrt (fitsKeys hk.1 hbk) ?_
      dsimp only
      rw [mfind_imT]
      have hper : imSub left im' = (imSub [(h, d)] im' && imSub (left.eraseIdx j) im') := by
        unfold imSub
        rw [(perm_erase hj2).all_eq]
        simp
      cases hf : findI h im' with
      | none =>
        (conv => arg 3; whnf); repeat ((first | (with_reducible apply sT); rfl | (with_reducible apply sF); rfl | (with_reducible apply sE); rfl); conv => arg 3; whnf)
        refine sat_ret (.inl ⟨rfl, rfl, ?_, _, _, _, rfl⟩)
        rw [hall, hper]
        simp [imSub, hf]
      | some y =>
        obtain ⟨py, hpy, rfl⟩ := findI_mem hf
        (conv => arg 3; whnf); repeat ((first | (with_reducible apply sT); rfl | (with_reducible apply sF); rfl | (with_reducible apply sE); rfl); conv => arg 3; whnf)
        refine sat_call (k_bequal d py.2 hk.2 (hbk py hpy).2) ?_
        rintro r H' ⟨rfl, rfl⟩
        (conv => arg 3; whnf); repeat ((first | (with_reducible apply sT); rfl | (with_reducible apply sF); rfl | (with_reducible apply sE); rfl); conv => arg 3; whnf)
        refine sat_br (fun h5 => ?_) (fun h5 => ?_)
        · have h5 : Tr.eqbs d py.2 = false := by simpa using h5
          (conv => arg 3; whnf); repeat ((first | (with_reducible apply sT); rfl | (with_reducible apply sF); rfl | (with_reducible apply sE); rfl); conv => arg 3; whnf)
          refine sat_ret (.inl ⟨rfl, rfl, ?_, _, _, _, rfl⟩)
          rw [hall, hper]
          simp [imSub, hf, h5]
        · have h5 : Tr.eqbs d py.2 = true := by simpa using h5
          (conv => arg 3; whnf); repeat ((first | (with_reducible apply sT); rfl | (with_reducible apply sF); rfl | (with_reducible apply sE); rfl); conv => arg 3; whnf)
          refine sat_ret ⟨⟨left.eraseIdx j, fun q hq => hsub q (List.mem_of_mem_eraseIdx hq), ?_, _⟩, rfl, rfl, ?_⟩
          · rw [hall, hper]
            simp [imSub, hf, h5]
          · show (left.eraseIdx j).length < left.length
            rw [List.length_eraseIdx]; split <;> omega
  · rintro ex fr' H' (⟨rfl, rfl, h5, left, last, h, rfl⟩ | ⟨rfl, rfl, h5, rfl⟩)
    · rw [h5] at hP
      subst hP
      (conv => arg 3; whnf); repeat ((first | (with_reducible apply sT); rfl | (with_reducible apply sF); rfl | (with_reducible apply sE); rfl); conv => arg 3; whnf)
      exact sat_ret ⟨rfl, rfl⟩
    · rw [h5] at hP
      subst hP
      (conv => arg 3; whnf); repeat ((first | (with_reducible apply sT); rfl | (with_reducible apply sF); rfl | (with_reducible apply sE); rfl); conv => arg 3; whnf)
      exact sat_ret ⟨rfl, rfl⟩
end Stk
end
