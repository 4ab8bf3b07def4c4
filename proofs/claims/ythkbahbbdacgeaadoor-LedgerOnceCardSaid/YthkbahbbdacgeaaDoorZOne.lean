/- LedgerOne: at most one epoch is pending, the last one; a phase is left but for ever; epochs and images stay. -/
import Derived.Test.YthkbahbbdacgeaaDoorZA1
import Derived.Test.YthkbahbbdacgeaaDoorZj11
namespace Stk
open Go
set_option maxRecDepth 100000
set_option linter.unusedSimpArgs false
set_option linter.unusedVariables false
set_option maxHeartbeats 4000000
abbrev CmD : TyD := .st [.int .u8, .int .i64, .int .i64, .int .i64, .int .i64, .bool, .arr 32 (.int .u8), .sl 1 (.int .u8), .pad 14]
abbrev ActD : TyD := .st [CmD, .int .i64]
theorem allB_fits {X : List Tr} (h : AllB X) : Tr.fits (.arr 32 X) hSh = true := by
  show (Nat.beq 32 32 && Tr.fitsa X (.int .u8)) = true
  rw [show Nat.beq 32 32 = true from rfl, Bool.true_and]
  induction X with
  | nil => rfl
  | cons x r ih =>
    obtain ⟨v, rfl, _, _⟩ := h x (by simp)
    simp only [Tr.fitsa, Tr.fits, kindEq, Bool.true_and]
    exact ih fun z hz => h z (by simp [hz])
theorem cm_of {x : Tr} (h : TrD CmD x) : ∃ (c : Cm) (f : Bool), x = c.t f ∧ c.AK := by
  obtain ⟨_, rfl, y0, _, rfl, ⟨k, rfl, w0⟩, y1, _, rfl, ⟨a, rfl, w1⟩, y2, _, rfl, ⟨b, rfl, w2⟩, y3, _, rfl, ⟨d, rfl, w3⟩, y4, _, rfl, ⟨e, rfl, w4⟩, y5, _, rfl, ⟨m, rfl⟩, y6, _, rfl, ⟨hs, rfl, hl, hh⟩, y7, _, rfl, ⟨f, L, rfl, _, h1, h2⟩, rfl⟩ := h
  have h1' : L.length * 1 ≤ 140737488351232 := h1
  have := wf_u8 w0
  have bs : ∀ X : List Tr, (∀ y ∈ X, TrD (.int .u8) y) → AllB X := fun X hX y hy => by
    obtain ⟨i, rfl, hi⟩ := hX y hy
    have := wf_u8 hi
    exact ⟨i, rfl, by omega, by omega⟩
  refine ⟨⟨k, a, b, d, e, m, hs, L⟩, f, rfl, ⟨by show 0 ≤ k ∧ k ≤ 255; omega, wf_i64 w3, wf_i64 w4, wf_i64 w1, wf_i64 w2, ?_, bs L h2, by show L.length ≤ _; omega⟩⟩
  exact allB_fits (bs hs hh)
theorem act_of {x : Tr} (h : TrD ActD x) : ∃ a : Act, x = a.t ∧ a.AK := by
  obtain ⟨_, rfl, y0, _, rfl, h1, y1, _, rfl, ⟨p, rfl, w1⟩, rfl⟩ := h
  obtain ⟨c, f, rfl, hc⟩ := cm_of h1
  exact ⟨⟨c, f, p⟩, rfl, hc, wf_i64 w1⟩
theorem acts_of : ∀ {xs : List Tr}, (∀ y ∈ xs, TrD ActD y) → ∃ A : List Act, xs = actsT A ∧ ∀ a ∈ A, a.AK
  | [], _ => ⟨[], rfl, fun e he => by cases he⟩
  | x :: xs, h => by
    obtain ⟨A, rfl, h2⟩ := acts_of (xs := xs) fun y hy => h y (by simp [hy])
    obtain ⟨a, rfl, ha⟩ := act_of (h x (by simp))
    exact ⟨a :: A, rfl, fun y hy => (List.mem_cons.1 hy).elim (fun h => h ▸ ha) (h2 y)⟩
/-- Acts that are not too many. -/
theorem light {A : List Act} (hA : ∀ a ∈ A, a.AK) (h : hvy A = false) : A.length ≤ 400 ∧ ∀ a ∈ A, a.c.data.length ≤ 2 ^ 40 := by
  unfold hvy at h
  simp only [Bool.or_eq_false_iff, decide_eq_false_iff_not] at h
  have h400 : A.length ≤ 400 := by omega
  refine ⟨h400, ?_⟩
  have key : ∀ i, i ≤ A.length → 0 ≤ hvyS (A.take i) ∧ hvyS (A.take i) ≤ i * 1407374883553 ∧ ∀ (j : Nat) a, j < i → A[j]? = some a → ((a.c.data.length : Int).tdiv 100) ≤ hvyS (A.take i) := by
    intro i
    induction i with
    | zero => intro _; exact ⟨by simp [hvyS], by simp [hvyS], fun j a hj => by omega⟩
    | succ i ih =>
      intro hi
      obtain ⟨h1, h2, h3⟩ := ih (by omega)
      have hu : A[i]? = some A[i] := List.getElem?_eq_getElem (by omega)
      have hl := (hA A[i] (List.getElem_mem _)).hc.hl
      rw [hvyS_next hu]
      have t1 : (0 : Int) ≤ (A[i].c.data.length : Int).tdiv 100 := Int.tdiv_nonneg (by omega) (by decide)
      have t2 : (A[i].c.data.length : Int).tdiv 100 ≤ 1407374883553 := by
        rw [Int.tdiv_eq_ediv_of_nonneg (by omega)]; omega
      rw [wrap64 (n := (A[i].c.data.length : Int).tdiv 100) (by omega) (by omega), wrap64 (by omega) (by omega)]
      refine ⟨by omega, by push_cast; omega, fun j a hj ha => ?_⟩
      rcases Nat.lt_or_ge j i with hlt | hge
      · have := h3 j a hlt ha; omega
      · obtain rfl : j = i := by omega
        rw [hu] at ha
        obtain rfl := Option.some.inj ha
        omega
  obtain ⟨_, _, h3⟩ := key A.length (Nat.le_refl _)
  rw [List.take_length] at h3
  intro a ha
  obtain ⟨j, hj⟩ := List.getElem?_of_mem ha
  have := h3 j a (List.getElem?_eq_some_iff.1 hj).1 hj
  rw [Int.tdiv_eq_ediv_of_nonneg (by omega)] at this
  omega
theorem Act.cmd_ok {a : Act} (h : a.AK) (hl : a.c.data.length ≤ 2 ^ 40) : a.cmd.OK := by
  obtain ⟨⟨hk, hn, he, hc, hs, hh, hb, _⟩, _⟩ := h
  unfold Act.cmd
  split
  · rename_i hp
    split
    · exact ⟨hn, he, hc, hs, hh, smL_b hp, by show (smL a.pick).length ≤ _; exact (by decide : 19 ≤ 2 ^ 40)⟩
    · exact ⟨hn, he, hc, hs, sha_fits _, hb, hl⟩
  · exact ⟨hn, he, hc, hs, hh, hb, hl⟩
structure OneSt (A : List Act) where
  i : Nat
  l : Lg
  hi : i ≤ A.length
  inv : LInv l
structure InSt (l : Lg) where
  j : Nat
  hj : j ≤ l.eps.length
abbrev oFr (f0 : Bool) (A : List Act) (x : OneSt A) : Fr := [(5, pt 0), (7, .sl 3 0 [] 0 x.l.eps.length none), (33, .t (.sl f0 40 (actsT A))), (34, ti A.length), (35, ti x.i)]
abbrev oHs (A : List Act) (x : OneSt A) : Hp := [.var (x.l.v 2), .map (imT x.l.im), .row 37 (x.l.eps.map Ep.t), .row 37 (x.l.eps.map Ep.t)]
abbrev iFr (f0 : Bool) (A : List Act) (i : Nat) (l l' : Lg) (x : InSt l') : Fr :=
  [(5, pt 0), (7, .sl 3 0 [] 0 l.eps.length none), (10, .sl 4 0 [] 0 l'.eps.length none), (11, ti (lastE 2 l'.eps x.j)), (33, .t (.sl f0 40 (actsT A))), (34, ti A.length), (35, ti i), (58, .sl 4 0 [] 0 l'.eps.length none), (59, ti l'.eps.length), (60, ti x.j)]
abbrev iHs (l l' : Lg) : Hp := [.var (l'.v 2), .map (imT l'.im), .row 37 (l'.eps.map Ep.t), .row 37 (l.eps.map Ep.t), .row 37 (l'.eps.map Ep.t)]
theorem l_one (x0 x1 : Tr) (h0 : TrD (.int .i64) x0) (h1 : TrD (.sl 40 ActD) x1) : ACalls PP GG F.law23_LedgerOne (toAVs [x0, x1]) [] fun r _ => r = .t (.bool true) := by
  obtain ⟨n, rfl, wn⟩ := h0
  obtain ⟨f0, X, rfl, _, hlim, hX⟩ := h1
  obtain ⟨A, rfl, hA⟩ := acts_of hX
  have hXl : (actsT A).length * TyD.bytes ActD ≤ 140737488351232 := hlim
  have el : (actsT A).length = A.length := by simp
  rw [el, show TyD.bytes ActD = 112 from by decide] at hXl
  clear hlim hX
  show ACalls PP GG F.law23_LedgerOne [ti n, .t (.sl f0 40 (actsT A))] [] _
  refine K.law23_LedgerOne.callsC rfl ?_
  (conv => arg 3; whnf); repeat ((first | (with_reducible apply sT); rfl | (with_reducible apply sF); rfl | (with_reducible apply sE); rfl); conv => arg 3; whnf)
  refine sat_call k_awake ?_
  rintro r H' ⟨rfl, rfl⟩
  (conv => arg 3; whnf); repeat ((first | (with_reducible apply sT); rfl | (with_reducible apply sF); rfl | (with_reducible apply sE); rfl); conv => arg 3; whnf)
  refine sat_call (k_heavy A (by omega)) ?_
  rintro r H' ⟨rfl, rfl⟩
  (conv => arg 3; whnf); repeat ((first | (with_reducible apply sT); rfl | (with_reducible apply sF); rfl | (with_reducible apply sE); rfl); conv => arg 3; whnf)
  refine sat_br (fun hv => ?_) (fun hv => ?_)
  · (conv => arg 3; whnf); repeat ((first | (with_reducible apply sT); rfl | (with_reducible apply sF); rfl | (with_reducible apply sE); rfl); conv => arg 3; whnf)
    exact sat_ret rfl
  obtain ⟨hA4, hAd⟩ := light hA hv
  (conv => arg 3; whnf); repeat ((first | (with_reducible apply sT); rfl | (with_reducible apply sF); rfl | (with_reducible apply sE); rfl); conv => arg 3; whnf)
  refine sat_call (k_nodesOf n) ?_
  rintro r H' ⟨rfl, rfl⟩
  have hno := nodesOf_in n
  generalize nodesOf n = nn at hno ⊢
  (conv => arg 3; whnf); repeat ((first | (with_reducible apply sT); rfl | (with_reducible apply sF); rfl | (with_reducible apply sE); rfl); conv => arg 3; whnf)
  refine sat_call (k_new_l nn hno) ?_
  rintro r H' ⟨rfl, rfl⟩
  have hi0 := LInv.new hno
  generalize hL0 : Lg.new nn = L0 at *
  have he0 : L0.eps = [] := by rw [← hL0]; rfl
  obtain ⟨nodes, im, eps, q1, q2, q3, q4⟩ := L0
  dsimp only at he0
  subst he0
  (conv => arg 3; whnf); repeat ((first | (with_reducible apply sT); rfl | (with_reducible apply sF); rfl | (with_reducible apply sE); rfl); conv => arg 3; whnf)
  rw [el]
  refine sat_loopOf mkX_ops (σ := OneSt A) (oFr f0 A) (oHs A) (fun x => A.length - x.i) (fun ex fr' H' => ex = .exit 0 ∧ fr' = [(4, .undef)] ∧ ∃ y, H' = oHs A y) ⟨0, ⟨nodes, im, [], q1, q2, q3, q4⟩, Nat.zero_le _, hi0⟩ ?_ ?_
  rotate_left
  · rintro ex fr' H' ⟨rfl, rfl, ⟨_, ⟨_, _, _, _, _, _, _⟩, _, _⟩, rfl⟩
    (conv => arg 3; whnf); repeat ((first | (with_reducible apply sT); rfl | (with_reducible apply sF); rfl | (with_reducible apply sE); rfl); conv => arg 3; whnf)
    exact sat_ret rfl
  rintro ⟨i, l, hi, inv⟩
  dsimp only [oFr, oHs]
  (conv => arg 3; whnf); repeat ((first | (with_reducible apply sT); rfl | (with_reducible apply sF); rfl | (with_reducible apply sE); rfl); conv => arg 3; whnf)
  refine sat_br (fun h => ?_) (fun h => ?_)
  rotate_left
  · (conv => arg 3; whnf); repeat ((first | (with_reducible apply sT); rfl | (with_reducible apply sF); rfl | (with_reducible apply sE); rfl); conv => arg 3; whnf)
    exact sat_ret ⟨rfl, rfl, ⟨i, l, hi, inv⟩, rfl⟩
  have h : i < A.length := by have := of_decide_eq_true h; omega
  have hu : A[i]? = some A[i] := List.getElem?_eq_getElem h
  generalize A[i] = a at hu
  have hak := hA a (List.mem_of_getElem? hu)
  have hac := Act.cmd_ok hak (hAd a (List.mem_of_getElem? hu))
  have kc := k_cmd a hak
  have hst := LStep.apply inv hac
  have ka := k_apply l inv.ok a.cmd hac
  generalize a.cmd = C at *
  generalize l.apply C = R at *
  obtain ⟨l', rp⟩ := R
  have ke := k_epochs l' hst.inv.ok
  obtain ⟨inv', nxt, _⟩ := hst
  obtain ⟨⟨kind, client, seq, node, epoch, yes, hash, data⟩, f, pick⟩ := a
  obtain ⟨ckind, cclient, cseq, cnode, cepoch, cyes, chash, cdata⟩ := C
  obtain ⟨nodes', im', eps', q1', q2', q3', q4'⟩ := l'
  obtain ⟨lnodes, lim, leps, lq1, lq2, lq3, lq4⟩ := l
  dsimp only [Lg.H, Lg.D, Lg.v, Cm.l, Cm.o, Act.l, Rp.a] at *
  (conv => arg 3; whnf); repeat ((first | (with_reducible apply sT); rfl | (with_reducible apply sF); rfl | (with_reducible apply sE); rfl); conv => arg 3; whnf)
  refine sat_idx (Act.t ⟨⟨kind, client, seq, node, epoch, yes, hash, data⟩, f, pick⟩) (by omega) (by rw [Int.toNat_natCast, List.getElem?_map, hu]; rfl) ?_
  (conv => arg 3; whnf); repeat ((first | (with_reducible apply sT); rfl | (with_reducible apply sF); rfl | (with_reducible apply sE); rfl); conv => arg 3; whnf)
  refine sat_call kc ?_
  rintro r H' ⟨rfl, rfl⟩
  (conv => arg 3; whnf); repeat ((first | (with_reducible apply sT); rfl | (with_reducible apply sF); rfl | (with_reducible apply sE); rfl); conv => arg 3; whnf)
  rw [show List.take cdata.length (List.drop 0 cdata) = cdata by simp]
  refine sat_call ka ?_
  rintro r H' ⟨rfl, rfl⟩
  (conv => arg 3; whnf); repeat ((first | (with_reducible apply sT); rfl | (with_reducible apply sF); rfl | (with_reducible apply sE); rfl); conv => arg 3; whnf)
  refine sat_call ke ?_
  rintro r H' ⟨rfl, rfl⟩
  have hnl := nxt.len
  (conv => arg 3; whnf); repeat ((first | (with_reducible apply sT); rfl | (with_reducible apply sF); rfl | (with_reducible apply sE); rfl); conv => arg 3; whnf)
  refine sat_brF (decide_eq_false (by omega)) ?_
  (conv => arg 3; whnf); repeat ((first | (with_reducible apply sT); rfl | (with_reducible apply sF); rfl | (with_reducible apply sE); rfl); conv => arg 3; whnf)
  refine sat_rng (wrap64 (by have := inv.ok.he; dsimp only at this; omega) (by have := inv.ok.he; dsimp only at this; omega)) ?_
  (conv => arg 3; whnf); repeat ((first | (with_reducible apply sT); rfl | (with_reducible apply sF); rfl | (with_reducible apply sE); rfl); conv => arg 3; whnf)
  refine sat_brF (decide_eq_false (by omega)) ?_
  (conv => arg 3; whnf); repeat ((first | (with_reducible apply sT); rfl | (with_reducible apply sF); rfl | (with_reducible apply sE); rfl); conv => arg 3; whnf)
  generalize hl0 : Lg.mk lnodes lim leps lq1 lq2 lq3 lq4 = l0 at *
  have hle : l0.eps = leps := by rw [← hl0]
  generalize hl1 : Lg.mk nodes' im' eps' q1' q2' q3' q4' = l1 at *
  refine sat_loopOf mkX_ops (σ := { j : Nat // j ≤ eps'.length }) (fun x => [(5, pt 0), (7, .sl 3 0 [] 0 leps.length none), (10, .sl 4 0 [] 0 eps'.length none), (11, ti (lastE 2 eps' x.1)), (33, .t (.sl f0 40 (actsT A))), (34, ti A.length), (35, ti i), (58, .sl 4 0 [] 0 eps'.length none), (59, ti eps'.length), (60, ti x.1)])
    (fun x => [.var (.agg [ti nodes', .mp 1, .sl 2 0 [] 0 eps'.length none, .t (.agg [q1'.t, q2'.t, q3'.t, q4'.t])]), .map (imT im'), .row 37 (eps'.map Ep.t), .row 37 (leps.map Ep.t), .row 37 (eps'.map Ep.t)]) (fun x => eps'.length - x.1)
    (fun ex fr' H' => ex = .exit 2 ∧ fr' = [(4, .undef), (5, pt 0), (10, .sl 4 0 [] 0 eps'.length none), (11, ti (lastE 2 eps' eps'.length)), (33, .t (.sl f0 40 (actsT A))), (34, ti A.length), (35, ti i)] ∧
      H' = [.var (.agg [ti nodes', .mp 1, .sl 2 0 [] 0 eps'.length none, .t (.agg [q1'.t, q2'.t, q3'.t, q4'.t])]), .map (imT im'), .row 37 (eps'.map Ep.t), .row 37 (leps.map Ep.t), .row 37 (eps'.map Ep.t)]) ⟨0, Nat.zero_le _⟩ ?_ ?_
  · rintro ⟨j, hj⟩
    dsimp only
    (conv => arg 3; whnf); repeat ((first | (with_reducible apply sT); rfl | (with_reducible apply sF); rfl | (with_reducible apply sE); rfl); conv => arg 3; whnf)
    refine sat_br (fun h => ?_) (fun h => ?_)
    rotate_left
    · have h : j = eps'.length := by have := of_decide_eq_false h; omega
      subst h
      (conv => arg 3; whnf); repeat ((first | (with_reducible apply sT); rfl | (with_reducible apply sF); rfl | (with_reducible apply sE); rfl); conv => arg 3; whnf)
      exact sat_ret ⟨rfl, rfl, rfl⟩
    have h : j < eps'.length := by have := of_decide_eq_true h; omega
    have hv : eps'[j]? = some eps'[j] := List.getElem?_eq_getElem h
    generalize eps'[j] = u at hv
    have hvt : (eps'.map Ep.t)[0 + j]? = some u.t := by rw [Nat.zero_add, List.getElem?_map, hv]; rfl
    (conv => arg 3; whnf); repeat ((first | (with_reducible apply sT); rfl | (with_reducible apply sF); rfl | (with_reducible apply sE); rfl); conv => arg 3; whnf)
    refine sat_asrt (decide_eq_true (by omega)) ?_
    rw [Int.toNat_natCast]
    (conv => arg 3; whnf); repeat ((first | (with_reducible apply sT); rfl | (with_reducible apply sF); rfl | (with_reducible apply sE); rfl); conv => arg 3; whnf)
    refine sat_idx u.t (by omega) (by rw [Int.toNat_natCast]; exact hvt) ?_
    (conv => arg 3; whnf); repeat ((first | (with_reducible apply sT); rfl | (with_reducible apply sF); rfl | (with_reducible apply sE); rfl); conv => arg 3; whnf)
    have hle1 : l1.eps = eps' := by rw [← hl1]
    have hlm1 : l1.im = im' := by rw [← hl1]
    obtain ⟨p1, p2, p3⟩ := inv'.ph j u (by rw [hle1]; exact hv)
    rw [hle1] at p3
    have hum : u ∈ l1.eps := by rw [hle1]; exact List.mem_of_getElem? hv
    have huf := inv'.hf u hum
    have hui := inv'.im u hum
    rw [hlm1] at hui
    have ki := k_image l1 inv'.ok u.hash huf inv'.hd
    have hlast := show lastE 2 eps' (j + 1) = if u.phase = 2 then j + 1 else lastE 2 eps' j by simp only [lastE, hv]
    have hle64 : eps'.length ≤ 64 := by rw [← hle1]; exact inv'.ok.he
    rw [← hl1] at ki
    dsimp only [Lg.H, Lg.D, Lg.v] at ki
    refine sat_brF (decide_eq_false (by omega)) ?_
    (conv => arg 3; whnf); repeat ((first | (with_reducible apply sT); rfl | (with_reducible apply sF); rfl | (with_reducible apply sE); rfl); conv => arg 3; whnf)
    refine sat_brF (decide_eq_false (by omega)) ?_
    (conv => arg 3; whnf); repeat ((first | (with_reducible apply sT); rfl | (with_reducible apply sF); rfl | (with_reducible apply sE); rfl); conv => arg 3; whnf)
    refine sat_br (fun g1 => ?_) (fun g1 => ?_)
    focus
      have g1 : u.phase = 1 := by simpa using g1
      have g2 := p3 g1
      (conv => arg 3; whnf); repeat ((first | (with_reducible apply sT); rfl | (with_reducible apply sF); rfl | (with_reducible apply sE); rfl); conv => arg 3; whnf)
      refine sat_rng (wrap64 (by omega) (by omega)) ?_
      (conv => arg 3; whnf); repeat ((first | (with_reducible apply sT); rfl | (with_reducible apply sF); rfl | (with_reducible apply sE); rfl); conv => arg 3; whnf)
      refine sat_brF (by simp; omega) ?_
      (conv => arg 3; whnf); repeat ((first | (with_reducible apply sT); rfl | (with_reducible apply sF); rfl | (with_reducible apply sE); rfl); conv => arg 3; whnf)
    rotate_left
    focus
      (conv => arg 3; whnf); repeat ((first | (with_reducible apply sT); rfl | (with_reducible apply sF); rfl | (with_reducible apply sE); rfl); conv => arg 3; whnf)
    all_goals
      clear g1
      refine sat_br (fun g3 => ?_) (fun g3 => ?_)
      focus
        have g3 : u.phase = 2 := by simpa using g3
        rw [if_pos g3] at hlast
        (conv => arg 3; whnf); repeat ((first | (with_reducible apply sT); rfl | (with_reducible apply sF); rfl | (with_reducible apply sE); rfl); conv => arg 3; whnf)
        refine sat_rng (wrap64 (by omega) (by omega)) ?_
        rw [show ((j : Int) + 1) = ((j + 1 : Nat) : Int) by omega, ← hlast]
        (conv => arg 3; whnf); repeat ((first | (with_reducible apply sT); rfl | (with_reducible apply sF); rfl | (with_reducible apply sE); rfl); conv => arg 3; whnf)
      rotate_left
      focus
        have g3 : ¬ u.phase = 2 := by simpa using g3
        rw [if_neg g3] at hlast
        rw [← hlast]
        (conv => arg 3; whnf); repeat ((first | (with_reducible apply sT); rfl | (with_reducible apply sF); rfl | (with_reducible apply sE); rfl); conv => arg 3; whnf)
    all_goals
      clear g3 hlast
      refine sat_call ki ?_
      rintro r H' ⟨rfl, rfl⟩
      rw [hui]
      (conv => arg 3; whnf); repeat ((first | (with_reducible apply sT); rfl | (with_reducible apply sF); rfl | (with_reducible apply sE); rfl); conv => arg 3; whnf)
      refine sat_br (fun g4 => ?_) (fun g4 => ?_)
      focus
        have g4 : j < leps.length := by have := of_decide_eq_true g4; omega
        have hw : leps[j]? = some leps[j] := List.getElem?_eq_getElem g4
        generalize leps[j] = w at hw
        have hwt : (leps.map Ep.t)[0 + j]? = some w.t := by rw [Nat.zero_add, List.getElem?_map, hw]; rfl
        obtain ⟨u', hu', hwh, hwp⟩ := nxt.old j w hw
        rw [hv] at hu'
        obtain rfl := Option.some.inj hu'
        have hwf := inv.hf w (by rw [← hl0]; exact List.mem_of_getElem? hw)
        (conv => arg 3; whnf); repeat ((first | (with_reducible apply sT); rfl | (with_reducible apply sF); rfl | (with_reducible apply sE); rfl); conv => arg 3; whnf)
        refine sat_asrt (decide_eq_true (by omega)) ?_
        rw [Int.toNat_natCast]
        (conv => arg 3; whnf); repeat ((first | (with_reducible apply sT); rfl | (with_reducible apply sF); rfl | (with_reducible apply sE); rfl); conv => arg 3; whnf)
        refine sat_idx w.t (by omega) (by rw [Int.toNat_natCast]; exact hwt) ?_
        (conv => arg 3; whnf); repeat ((first | (with_reducible apply sT); rfl | (with_reducible apply sF); rfl | (with_reducible apply sE); rfl); conv => arg 3; whnf)
        refine sat_asrt (by simp only [huf, hwf]; rfl) ?_
        (conv => arg 3; whnf); repeat ((first | (with_reducible apply sT); rfl | (with_reducible apply sF); rfl | (with_reducible apply sE); rfl); conv => arg 3; whnf)
        refine sat_brF ?_ ?_
        · show (!Tr.eqbs u.hash w.hash) = false
          rw [← hwh]
          simp only [Tr.fits, Bool.and_eq_true] at huf
          rw [eqbs_self rfl huf.2]; rfl
        (conv => arg 3; whnf); repeat ((first | (with_reducible apply sT); rfl | (with_reducible apply sF); rfl | (with_reducible apply sE); rfl); conv => arg 3; whnf)
        refine sat_asrt (decide_eq_true (by omega)) ?_
        rw [Int.toNat_natCast]
        (conv => arg 3; whnf); repeat ((first | (with_reducible apply sT); rfl | (with_reducible apply sF); rfl | (with_reducible apply sE); rfl); conv => arg 3; whnf)
        refine sat_idx w.t (by omega) (by rw [Int.toNat_natCast]; exact hwt) ?_
        (conv => arg 3; whnf); repeat ((first | (with_reducible apply sT); rfl | (with_reducible apply sF); rfl | (with_reducible apply sE); rfl); conv => arg 3; whnf)
        refine sat_br (fun g5 => ?_) (fun g5 => ?_)
        focus
          have g5 : u.phase ≠ w.phase := by simpa using g5
          have hw1 : w.phase = 1 := hwp.resolve_left g5
          (conv => arg 3; whnf); repeat ((first | (with_reducible apply sT); rfl | (with_reducible apply sF); rfl | (with_reducible apply sE); rfl); conv => arg 3; whnf)
          refine sat_asrt (decide_eq_true (by omega)) ?_
          rw [Int.toNat_natCast]
          (conv => arg 3; whnf); repeat ((first | (with_reducible apply sT); rfl | (with_reducible apply sF); rfl | (with_reducible apply sE); rfl); conv => arg 3; whnf)
          refine sat_idx w.t (by omega) (by rw [Int.toNat_natCast]; exact hwt) ?_
          (conv => arg 3; whnf); repeat ((first | (with_reducible apply sT); rfl | (with_reducible apply sF); rfl | (with_reducible apply sE); rfl); conv => arg 3; whnf)
          refine sat_brF (by simp [hw1]) ?_
          (conv => arg 3; whnf); repeat ((first | (with_reducible apply sT); rfl | (with_reducible apply sF); rfl | (with_reducible apply sE); rfl); conv => arg 3; whnf)
        rotate_left
        focus
          (conv => arg 3; whnf); repeat ((first | (with_reducible apply sT); rfl | (with_reducible apply sF); rfl | (with_reducible apply sE); rfl); conv => arg 3; whnf)
        all_goals clear g5
      rotate_left 2
      focus
        (conv => arg 3; whnf); repeat ((first | (with_reducible apply sT); rfl | (with_reducible apply sF); rfl | (with_reducible apply sE); rfl); conv => arg 3; whnf)
    all_goals
      refine sat_rng (wrap64 (by omega) (by omega)) ?_
      (conv => arg 3; whnf); repeat ((first | (with_reducible apply sT); rfl | (with_reducible apply sF); rfl | (with_reducible apply sE); rfl); conv => arg 3; whnf)
      exact sat_ret ⟨⟨j + 1, by omega⟩, rfl, rfl, by show eps'.length - (j + 1) < eps'.length - j; omega⟩
  · rintro ex fr' H' ⟨rfl, rfl, rfl⟩
    have hpd := inv'.pending
    have hle1 : l1.eps = eps' := by rw [← hl1]
    rw [hle1] at hpd
    have hle64 : eps'.length ≤ 64 := by rw [← hle1]; exact inv'.ok.he
    have kA := k_active l1 inv'.ok.hn.1 (by rw [hle1]; omega)
    have kP := k_pending l1 inv'.ok.hn.1 (by rw [hle1]; omega)
    rw [← hl1] at kA kP
    dsimp only [Lg.H, Lg.D, Lg.v] at kA kP
    (conv => arg 3; whnf); repeat ((first | (with_reducible apply sT); rfl | (with_reducible apply sF); rfl | (with_reducible apply sE); rfl); conv => arg 3; whnf)
    refine sat_br (fun g1 => ?_) (fun g1 => ?_)
    focus
      have g1 : 0 < eps'.length := by have := of_decide_eq_true g1; omega
      have hv : eps'[eps'.length - 1]? = some eps'[eps'.length - 1] := List.getElem?_eq_getElem (by omega)
      generalize eps'[eps'.length - 1] = u at hv
      rw [hv] at hpd
      simp only at hpd
      (conv => arg 3; whnf); repeat ((first | (with_reducible apply sT); rfl | (with_reducible apply sF); rfl | (with_reducible apply sE); rfl); conv => arg 3; whnf)
      refine sat_rng (wrap64 (by omega) (by omega)) ?_
      (conv => arg 3; whnf); repeat ((first | (with_reducible apply sT); rfl | (with_reducible apply sF); rfl | (with_reducible apply sE); rfl); conv => arg 3; whnf)
      refine sat_asrt (decide_eq_true (by omega)) ?_
      (conv => arg 3; whnf); repeat ((first | (with_reducible apply sT); rfl | (with_reducible apply sF); rfl | (with_reducible apply sE); rfl); conv => arg 3; whnf)
      refine sat_idx u.t (by omega) (by rw [Int.toNat_natCast, show 0 + ((eps'.length : Int) - 1).toNat = eps'.length - 1 by omega, List.getElem?_map, hv]; rfl) ?_
      (conv => arg 3; whnf); repeat ((first | (with_reducible apply sT); rfl | (with_reducible apply sF); rfl | (with_reducible apply sE); rfl); conv => arg 3; whnf)
      refine sat_br (fun g2 => ?_) (fun g2 => ?_)
      focus
        have g2 : u.phase = 1 := by simpa using g2
        rw [if_pos g2] at hpd
        (conv => arg 3; whnf); repeat ((first | (with_reducible apply sT); rfl | (with_reducible apply sF); rfl | (with_reducible apply sE); rfl); conv => arg 3; whnf)
      rotate_left
      focus
        have g2 : ¬ u.phase = 1 := by simpa using g2
        rw [if_neg g2] at hpd
        (conv => arg 3; whnf); repeat ((first | (with_reducible apply sT); rfl | (with_reducible apply sF); rfl | (with_reducible apply sE); rfl); conv => arg 3; whnf)
      all_goals clear g2
    rotate_left 2
    focus
      have g1 : eps'.length = 0 := by have := of_decide_eq_false g1; omega
      have h00 : eps' = [] := List.length_eq_zero_iff.1 g1
      rw [h00] at hpd
      have hpd : lastE 1 eps' eps'.length = 0 := by rw [h00]; rfl
      (conv => arg 3; whnf); repeat ((first | (with_reducible apply sT); rfl | (with_reducible apply sF); rfl | (with_reducible apply sE); rfl); conv => arg 3; whnf)
    all_goals
      refine sat_call kA ?_
      rintro r H' ⟨rfl, rfl⟩
      (conv => arg 3; whnf); repeat ((first | (with_reducible apply sT); rfl | (with_reducible apply sF); rfl | (with_reducible apply sE); rfl); conv => arg 3; whnf)
      refine sat_brF (by simp) ?_
      (conv => arg 3; whnf); repeat ((first | (with_reducible apply sT); rfl | (with_reducible apply sF); rfl | (with_reducible apply sE); rfl); conv => arg 3; whnf)
      refine sat_call kP ?_
      rintro r H' ⟨rfl, rfl⟩
      rw [hpd]
      (conv => arg 3; whnf); repeat ((first | (with_reducible apply sT); rfl | (with_reducible apply sF); rfl | (with_reducible apply sE); rfl); conv => arg 3; whnf)
      try ((with_reducible refine sat_brF ?_ ?_); simp; (conv => arg 3; whnf); repeat ((first | (with_reducible apply sT); rfl | (with_reducible apply sF); rfl | (with_reducible apply sE); rfl); conv => arg 3; whnf))
      (with_reducible refine sat_rng ?_ ?_)
      · exact wrap64 (by omega) (by omega)
      (conv => arg 3; whnf); repeat ((first | (with_reducible apply sT); rfl | (with_reducible apply sF); rfl | (with_reducible apply sE); rfl); conv => arg 3; whnf)
      exact sat_ret ⟨⟨i + 1, ⟨nodes', im', eps', q1', q2', q3', q4'⟩, by omega, by rw [hl1]; exact inv'⟩, rfl, rfl, by show A.length - (i + 1) < A.length - i; omega⟩
end Stk
