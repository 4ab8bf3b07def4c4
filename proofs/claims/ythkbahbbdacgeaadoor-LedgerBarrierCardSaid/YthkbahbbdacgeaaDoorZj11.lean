/- Several texts of this claim, joined into one file. -/
import Derived.Test.YthkbahbbdacgeaaDoorZD4
section
/- The ledger as data; what its small functions tell. -/
namespace Stk
open Go
set_option maxRecDepth 100000
set_option linter.unusedSimpArgs false
set_option linter.unusedVariables false
set_option maxHeartbeats 4000000
abbrev i6 (n : Int) : Tr := .int .i64 n
/-- An epoch. -/
structure Ep where
  hash : List Tr
  phase : Int
  yes : List Bool
abbrev Ep.t (x : Ep) : Tr := .agg [.arr 32 x.hash, i6 x.phase, .arr 4 (x.yes.map .bool)]
/-- A reply. -/
structure Rp where
  code : Int
  epoch : Int
  hash : List Tr
abbrev Rp.t (x : Rp) : Tr := .agg [i6 x.code, i6 x.epoch, .arr 32 x.hash]
abbrev Rp.a (x : Rp) : AV := .t x.t
/-- A client's last request. -/
structure Rq where
  seq : Int
  r : Rp
abbrev Rq.t (x : Rq) : Tr := .agg [i6 x.seq, x.r.t]
/-- The images as they lie in the map. -/
def imT (im : List (List Tr × List Tr)) : List (Tr × Tr) := im.map fun p => (.arr 32 p.1, .sl false 1 p.2)
structure Lg where
  nodes : Int
  im : List (List Tr × List Tr)
  eps : List Ep
  q1 : Rq
  q2 : Rq
  q3 : Rq
  q4 : Rq
abbrev Lg.v (l : Lg) (b : Nat) : AV := .agg [ti l.nodes, .mp 1, .sl b 0 [] 0 l.eps.length none, .t (.agg [l.q1.t, l.q2.t, l.q3.t, l.q4.t])]
abbrev Lg.H (l : Lg) : Hp := [.var (l.v 2), .map (imT l.im), .row 37 (l.eps.map Ep.t)]
/-- As a call leaves it. -/
abbrev Lg.D (l : Lg) : Hp := [.var (l.v 3), .map (imT l.im), .gone, .row 37 (l.eps.map Ep.t)]
theorem k_made (l : Lg) (hn : 0 < l.nodes) : ACalls PP GG F.ledger_Ledger_made [pt 0] l.H fun r H' => r = tb true ∧ H' = l.H := by
  obtain ⟨nodes, im, eps, q1, q2, q3, q4⟩ := l
  dsimp only [Lg.H, Lg.v] at *
  refine K.ledger_Ledger_made.callsQ rfl ?_
  (conv => arg 3; whnf); repeat ((first | (with_reducible apply sT); rfl | (with_reducible apply sF); rfl | (with_reducible apply sE); rfl); conv => arg 3; whnf)
  exact sat_ret ⟨by rw [show decide (nodes > 0) = true from decide_eq_true hn], rfl⟩
/-- The last epoch of a phase, among the first n. -/
def lastE (p : Int) (L : List Ep) : Nat → Nat
  | 0 => 0
  | n + 1 => match L[n]? with
    | some e => if e.phase = p then n + 1 else lastE p L n
    | none => lastE p L n
theorem k_last (l : Lg) (p : Int) (hn : 0 < l.nodes) (hl : l.eps.length ≤ 2 ^ 60) : ACalls PP GG F.ledger_Ledger_last [pt 0, ti p] l.H fun r H' => r = ti (lastE p l.eps l.eps.length) ∧ H' = l.D := by
  have km := k_made l hn
  obtain ⟨nodes, im, eps, q1, q2, q3, q4⟩ := l
  dsimp only [Lg.H, Lg.D, Lg.v] at *
  refine K.ledger_Ledger_last.callsC rfl ?_
  (conv => arg 3; whnf); repeat ((first | (with_reducible apply sT); rfl | (with_reducible apply sF); rfl | (with_reducible apply sE); rfl); conv => arg 3; whnf)
  refine sat_call km ?_
  rintro r H' ⟨rfl, rfl⟩
  (conv => arg 3; whnf); repeat ((first | (with_reducible apply sT); rfl | (with_reducible apply sF); rfl | (with_reducible apply sE); rfl); conv => arg 3; whnf)
  refine sat_loopOf mkX_ops (σ := { i : Nat // i ≤ eps.length ∧ lastE p eps i = lastE p eps eps.length }) (fun x => [(0, pt 0), (1, ti p), (5, ti x.1)]) (fun _ => Lg.H ⟨nodes, im, eps, q1, q2, q3, q4⟩) (fun x => x.1)
    (fun ex fr' H' => (ex = .ret ∧ fr' = [(4, ti (lastE p eps eps.length))] ∧ H' = Lg.H ⟨nodes, im, eps, q1, q2, q3, q4⟩) ∨ (ex = .exit 0 ∧ fr' = [(4, .undef)] ∧ H' = Lg.H ⟨nodes, im, eps, q1, q2, q3, q4⟩ ∧ lastE p eps eps.length = 0)) ⟨eps.length, Nat.le_refl _, rfl⟩ ?_ ?_
  · rintro ⟨i, hi, he⟩
    dsimp only [Lg.H, Lg.v]
    (conv => arg 3; whnf); repeat ((first | (with_reducible apply sT); rfl | (with_reducible apply sF); rfl | (with_reducible apply sE); rfl); conv => arg 3; whnf)
    refine sat_br (fun h => ?_) (fun h => ?_)
    · have h : 0 < i := by have := of_decide_eq_true h; omega
      dsimp only
      obtain ⟨j, rfl⟩ : ∃ j, i = j + 1 := ⟨i - 1, by omega⟩
      have hu : eps[j]? = some eps[j] := List.getElem?_eq_getElem (by omega)
      generalize eps[j] = u at hu
      (conv => arg 3; whnf); repeat ((first | (with_reducible apply sT); rfl | (with_reducible apply sF); rfl | (with_reducible apply sE); rfl); conv => arg 3; whnf)
      refine sat_rng (wrap64 (by omega) (by omega)) ?_
      (conv => arg 3; whnf); repeat ((first | (with_reducible apply sT); rfl | (with_reducible apply sF); rfl | (with_reducible apply sE); rfl); conv => arg 3; whnf)
      refine sat_asrt (decide_eq_true (by omega)) ?_
      (conv => arg 3; whnf); repeat ((first | (with_reducible apply sT); rfl | (with_reducible apply sF); rfl | (with_reducible apply sE); rfl); conv => arg 3; whnf)
      refine sat_idx u.t (by omega) (by rw [Int.toNat_natCast, show 0 + (((j + 1 : Nat) : Int) - 1).toNat = j by omega, List.getElem?_map, hu]; rfl) ?_
      (conv => arg 3; whnf); repeat ((first | (with_reducible apply sT); rfl | (with_reducible apply sF); rfl | (with_reducible apply sE); rfl); conv => arg 3; whnf)
      refine sat_br (fun h2 => ?_) (fun h2 => ?_)
      · have h2 : u.phase = p := by simpa using h2
        (conv => arg 3; whnf); repeat ((first | (with_reducible apply sT); rfl | (with_reducible apply sF); rfl | (with_reducible apply sE); rfl); conv => arg 3; whnf)
        refine sat_ret (.inl ⟨rfl, ?_, rfl⟩)
        rw [← he]
        simp only [lastE, hu, if_pos h2]
        rfl
      · have h2 : ¬ u.phase = p := by simpa using h2
        (conv => arg 3; whnf); repeat ((first | (with_reducible apply sT); rfl | (with_reducible apply sF); rfl | (with_reducible apply sE); rfl); conv => arg 3; whnf)
        refine sat_rng (wrap64 (by omega) (by omega)) ?_
        (conv => arg 3; whnf); repeat ((first | (with_reducible apply sT); rfl | (with_reducible apply sF); rfl | (with_reducible apply sE); rfl); conv => arg 3; whnf)
        refine sat_ret ⟨⟨j, by omega, ?_⟩, ?_, rfl, by show j < j + 1; omega⟩
        · rw [← he]; simp only [lastE, hu, if_neg h2]
        · rw [show (((j + 1 : Nat) : Int) - 1) = (j : Int) by omega]; rfl
    · have h : i = 0 := by have := of_decide_eq_false h; omega
      subst h
      (conv => arg 3; whnf); repeat ((first | (with_reducible apply sT); rfl | (with_reducible apply sF); rfl | (with_reducible apply sE); rfl); conv => arg 3; whnf)
      exact sat_ret (.inr ⟨rfl, rfl, rfl, he.symm⟩)
  · rintro ex fr' H' (⟨rfl, rfl, rfl⟩ | ⟨rfl, rfl, rfl, h0⟩)
    · (conv => arg 3; whnf); repeat ((first | (with_reducible apply sT); rfl | (with_reducible apply sF); rfl | (with_reducible apply sE); rfl); conv => arg 3; whnf)
      exact sat_ret ⟨rfl, rfl⟩
    · (conv => arg 3; whnf); repeat ((first | (with_reducible apply sT); rfl | (with_reducible apply sF); rfl | (with_reducible apply sE); rfl); conv => arg 3; whnf)
      refine sat_ret ⟨?_, rfl⟩
      show ti 0 = ti ((lastE p eps eps.length : Nat) : Int)
      rw [h0]; rfl
theorem k_pending (l : Lg) (hn : 0 < l.nodes) (hl : l.eps.length ≤ 2 ^ 60) : ACalls PP GG F.ledger_Ledger_Pending [pt 0] l.H fun r H' => r = ti (lastE 1 l.eps l.eps.length) ∧ H' = l.D := by
  have km := k_last l 1 hn hl
  obtain ⟨nodes, im, eps, q1, q2, q3, q4⟩ := l
  dsimp only [Lg.H, Lg.D, Lg.v] at *
  refine K.ledger_Ledger_Pending.callsC rfl ?_
  (conv => arg 3; whnf); repeat ((first | (with_reducible apply sT); rfl | (with_reducible apply sF); rfl | (with_reducible apply sE); rfl); conv => arg 3; whnf)
  refine sat_call km ?_
  rintro r H' ⟨rfl, rfl⟩
  (conv => arg 3; whnf); repeat ((first | (with_reducible apply sT); rfl | (with_reducible apply sF); rfl | (with_reducible apply sE); rfl); conv => arg 3; whnf)
  exact sat_ret ⟨rfl, rfl⟩
theorem k_active (l : Lg) (hn : 0 < l.nodes) (hl : l.eps.length ≤ 2 ^ 60) : ACalls PP GG F.ledger_Ledger_Active [pt 0] l.H fun r H' => r = ti (lastE 2 l.eps l.eps.length) ∧ H' = l.D := by
  have km := k_last l 2 hn hl
  obtain ⟨nodes, im, eps, q1, q2, q3, q4⟩ := l
  dsimp only [Lg.H, Lg.D, Lg.v] at *
  refine K.ledger_Ledger_Active.callsC rfl ?_
  (conv => arg 3; whnf); repeat ((first | (with_reducible apply sT); rfl | (with_reducible apply sF); rfl | (with_reducible apply sE); rfl); conv => arg 3; whnf)
  refine sat_call km ?_
  rintro r H' ⟨rfl, rfl⟩
  (conv => arg 3; whnf); repeat ((first | (with_reducible apply sT); rfl | (with_reducible apply sF); rfl | (with_reducible apply sE); rfl); conv => arg 3; whnf)
  exact sat_ret ⟨rfl, rfl⟩
end Stk
end

section
/- The ledger: an epoch is proposed; a node's word. -/
namespace Stk
open Go
set_option maxRecDepth 100000
set_option linter.unusedSimpArgs false
set_option linter.unusedVariables false
set_option maxHeartbeats 4000000
abbrev zh : List Tr := List.replicate 32 (.int .u8 0)
abbrev hSh : Sh := .arr 32 (.int .u8)
/-- All keys are digests. -/
def KeysOK (im : List (List Tr × List Tr)) : Prop := ∀ p ∈ im, Tr.fits (.arr 32 p.1) hSh = true ∧ AllB p.2
/-- What is stored under a digest. -/
def findI (h : List Tr) : List (List Tr × List Tr) → Option (List Tr)
  | [] => none
  | (a, d) :: r => if Tr.eqbs h a then some d else findI h r
def putI (h v : List Tr) : List (List Tr × List Tr) → List (List Tr × List Tr)
  | [] => [(h, v)]
  | (a, d) :: r => if Tr.eqbs h a then (h, v) :: r else (a, d) :: putI h v r
theorem mfind_imT (h : List Tr) : ∀ im : List (List Tr × List Tr), mfind (.arr 32 h) (imT im) = (findI h im).map fun d => .sl false 1 d
  | [] => rfl
  | (a, d) :: r => by
    have e : mfind (.arr 32 h) (imT ((a, d) :: r)) = if Tr.eqbs h a then some (.sl false 1 d) else mfind (.arr 32 h) (imT r) := rfl
    rw [e, mfind_imT h r]
    simp only [findI]
    split <;> rfl
theorem mput_imT (h v : List Tr) : ∀ im : List (List Tr × List Tr), mput (.arr 32 h) (.sl false 1 v) (imT im) = imT (putI h v im)
  | [] => rfl
  | (a, d) :: r => by
    have e : mput (.arr 32 h) (.sl false 1 v) (imT ((a, d) :: r)) = if Tr.eqbs h a then (.arr 32 h, .sl false 1 v) :: imT r else (.arr 32 a, .sl false 1 d) :: mput (.arr 32 h) (.sl false 1 v) (imT r) := rfl
    rw [e, mput_imT h v r]
    simp only [putI]
    split <;> rfl
theorem findI_mem {h d : List Tr} : ∀ {im : List (List Tr × List Tr)}, findI h im = some d → ∃ p ∈ im, p.2 = d
  | [], e => by simp [findI] at e
  | (a, x) :: r, e => by
    simp only [findI] at e
    split at e
    · exact ⟨(a, x), by simp, Option.some.inj e⟩
    · obtain ⟨p, h1, h2⟩ := findI_mem e; exact ⟨p, by simp [h1], h2⟩
structure Lg.OK (l : Lg) : Prop where
  hn : 0 < l.nodes ∧ l.nodes ≤ 4
  he : l.eps.length ≤ 64
  hk : KeysOK l.im
  hy : ∀ e ∈ l.eps, e.yes.length = 4
def Lg.propose (l : Lg) (h : List Tr) : Lg × Rp :=
  if (findI h l.im).isSome = false then (l, ⟨6, 0, zh⟩) else if lastE 1 l.eps l.eps.length > 0 then (l, ⟨60, 0, zh⟩) else if l.eps.length = 64 then (l, ⟨7, 0, zh⟩)
  else ({ l with eps := l.eps ++ [⟨h, 1, [false, false, false, false]⟩] }, ⟨0, (l.eps.length + 1 : Nat), zh⟩)
theorem fitsKeys {h : List Tr} {im : List (List Tr × List Tr)} (hh : Tr.fits (.arr 32 h) hSh = true) (hk : KeysOK im) : (Tr.fits (.arr 32 h) hSh && (imT im).all (fun p => p.1.fits hSh)) = true := by
  rw [hh, Bool.true_and, List.all_eq_true]
  intro p hp
  simp only [imT, List.mem_map] at hp
  obtain ⟨q, h1, rfl⟩ := hp
  exact (hk q h1).1
theorem k_propose (l : Lg) (hl : l.OK) (h : List Tr) (hh : Tr.fits (.arr 32 h) hSh = true) : ACalls PP GG F.ledger_Ledger_propose [pt 0, .t (.arr 32 h)] l.H fun r H' => r = (l.propose h).2.a ∧ H' = (l.propose h).1.D := by
  have kp := k_pending l hl.hn.1 (by have := hl.he; omega)
  obtain ⟨hn, he, hk, hy⟩ := hl
  obtain ⟨nodes, im, eps, q1, q2, q3, q4⟩ := l
  generalize hP : Lg.propose ⟨nodes, im, eps, q1, q2, q3, q4⟩ h = P
  unfold Lg.propose at hP
  dsimp only [Lg.H, Lg.D, Lg.v] at *
  refine K.ledger_Ledger_propose.callsC rfl ?_
  (conv => arg 3; whnf); repeat ((first | (with_reducible apply sT); rfl | (with_reducible apply sF); rfl | (with_reducible apply sE); rfl); conv => arg 3; whnf)
  refine sat_asrt (fitsKeys hh hk) ?_
  (conv => arg 3; whnf); repeat ((first | (with_reducible apply sT); rfl | (with_reducible apply sF); rfl | (with_reducible apply sE); rfl); conv => arg 3; whnf)
  rw [mfind_imT]
  cases hm : findI h im with
  | none =>
    rw [hm] at hP
    (conv => arg 3; whnf); repeat ((first | (with_reducible apply sT); rfl | (with_reducible apply sF); rfl | (with_reducible apply sE); rfl); conv => arg 3; whnf)
    rw [if_pos (show (none : Option (List Tr)).isSome = false from rfl)] at hP
    subst hP
    exact sat_ret ⟨rfl, rfl⟩
  | some d =>
    rw [hm] at hP
    rw [if_neg (by simp)] at hP
    (conv => arg 3; whnf); repeat ((first | (with_reducible apply sT); rfl | (with_reducible apply sF); rfl | (with_reducible apply sE); rfl); conv => arg 3; whnf)
    refine sat_call kp ?_
    rintro r H' ⟨rfl, rfl⟩
    (conv => arg 3; whnf); repeat ((first | (with_reducible apply sT); rfl | (with_reducible apply sF); rfl | (with_reducible apply sE); rfl); conv => arg 3; whnf)
    refine sat_br (fun h1 => ?_) (fun h1 => ?_)
    · have h1 : lastE 1 eps eps.length > 0 := by have := of_decide_eq_true h1; omega
      rw [if_pos h1] at hP
      (conv => arg 3; whnf); repeat ((first | (with_reducible apply sT); rfl | (with_reducible apply sF); rfl | (with_reducible apply sE); rfl); conv => arg 3; whnf)
      subst hP
      exact sat_ret ⟨rfl, rfl⟩
    · have h1 : ¬ lastE 1 eps eps.length > 0 := by have := of_decide_eq_false h1; omega
      rw [if_neg h1] at hP
      (conv => arg 3; whnf); repeat ((first | (with_reducible apply sT); rfl | (with_reducible apply sF); rfl | (with_reducible apply sE); rfl); conv => arg 3; whnf)
      refine sat_br (fun h2 => ?_) (fun h2 => ?_)
      · have h2 : eps.length = 64 := by have : (eps.length : Int) = 64 := by simpa using h2
                                        omega
        rw [if_pos h2] at hP
        (conv => arg 3; whnf); repeat ((first | (with_reducible apply sT); rfl | (with_reducible apply sF); rfl | (with_reducible apply sE); rfl); conv => arg 3; whnf)
        subst hP
        exact sat_ret ⟨rfl, rfl⟩
      · have h2 : ¬ eps.length = 64 := by
          have : ¬ (eps.length : Int) = 64 := by simpa using h2
          omega
        rw [if_neg h2] at hP
        (conv => arg 3; whnf); repeat ((first | (with_reducible apply sT); rfl | (with_reducible apply sF); rfl | (with_reducible apply sE); rfl); conv => arg 3; whnf)
        refine sat_asrt (by simp) ?_
        (conv => arg 3; whnf); repeat ((first | (with_reducible apply sT); rfl | (with_reducible apply sF); rfl | (with_reducible apply sE); rfl); conv => arg 3; whnf)
        refine sat_asrt (by simp [roomy]; omega) ?_
        (conv => arg 3; whnf); repeat ((first | (with_reducible apply sT); rfl | (with_reducible apply sF); rfl | (with_reducible apply sE); rfl); conv => arg 3; whnf)
        refine sat_br (fun h3 => ?_) (fun h3 => ?_)
        · (conv => arg 3; whnf); repeat ((first | (with_reducible apply sT); rfl | (with_reducible apply sF); rfl | (with_reducible apply sE); rfl); conv => arg 3; whnf)
          subst hP
          refine sat_ret ⟨?_, ?_⟩
          · simp [Rp.a, Rp.t]; rfl
          · simp [Lg.D, Lg.v]
        · exact absurd h3 (by simp)
/-- A command, lent. -/
structure Cm where
  kind : Int
  client : Int
  seq : Int
  node : Int
  epoch : Int
  yes : Bool
  hash : List Tr
  data : List Tr
abbrev Cm.l (c : Cm) : AV := .agg [.t (.int .u8 c.kind), ti c.client, ti c.seq, ti c.node, ti c.epoch, tb c.yes, .t (.arr 32 c.hash), .bz 1 c.data]
abbrev I64 (n : Int) : Prop := -9223372036854775808 ≤ n ∧ n ≤ 9223372036854775807
structure Cm.OK (c : Cm) : Prop where
  hn : I64 c.node
  he : I64 c.epoch
  hc : I64 c.client
  hs : I64 c.seq
  hh : Tr.fits (.arr 32 c.hash) hSh = true
  hb : AllB c.data
  hl : c.data.length ≤ 2 ^ 40
def Lg.ack1 (l : Lg) (c : Cm) (e : Ep) : Lg × Rp :=
  if e.phase ≠ 1 then (l, ⟨61, 0, zh⟩)
  else if c.yes = false then ({ l with eps := l.eps.set (c.epoch - 1).toNat { e with phase := 3 } }, ⟨0, c.epoch, zh⟩)
  else ({ l with eps := l.eps.set (c.epoch - 1).toNat ⟨e.hash, if ((e.yes.set (c.node - 1).toNat true).take l.nodes.toNat).all id then 2 else 1, e.yes.set (c.node - 1).toNat true⟩ }, ⟨0, c.epoch, zh⟩)
def Lg.ack (l : Lg) (c : Cm) : Lg × Rp :=
  if c.node < 1 ∨ c.node > l.nodes then (l, ⟨1, 0, zh⟩)
  else if c.epoch < 1 ∨ c.epoch > l.eps.length then (l, ⟨6, 0, zh⟩)
  else match l.eps[(c.epoch - 1).toNat]? with
    | some e => l.ack1 c e
    | none => (l, ⟨6, 0, zh⟩)
theorem k_ack (l : Lg) (hl : l.OK) (c : Cm) (hc : c.OK) : ACalls PP GG F.ledger_Ledger_ack [pt 0, c.l] l.H fun r H' => r = (l.ack c).2.a ∧ H' = (l.ack c).1.D := by
  obtain ⟨hn, he, hk, hy⟩ := hl
  obtain ⟨c1, c2, _, _, _, _, _⟩ := hc
  obtain ⟨nodes, im, eps, q1, q2, q3, q4⟩ := l
  obtain ⟨kind, client, seq, node, epoch, yes, hash, data⟩ := c
  generalize hP : Lg.ack ⟨nodes, im, eps, q1, q2, q3, q4⟩ ⟨kind, client, seq, node, epoch, yes, hash, data⟩ = P
  unfold Lg.ack at hP
  dsimp only [Lg.H, Lg.D, Lg.v, Cm.l] at *
  refine K.ledger_Ledger_ack.callsC rfl ?_
  (conv => arg 3; whnf); repeat ((first | (with_reducible apply sT); rfl | (with_reducible apply sF); rfl | (with_reducible apply sE); rfl); conv => arg 3; whnf)
  refine sat_br (fun h1 => ?_) (fun h1 => ?_)
  · have h1 : node < 1 := by simpa using h1
    rw [if_pos (.inl h1)] at hP
    (conv => arg 3; whnf); repeat ((first | (with_reducible apply sT); rfl | (with_reducible apply sF); rfl | (with_reducible apply sE); rfl); conv => arg 3; whnf)
    subst hP
    exact sat_ret ⟨rfl, rfl⟩
  have h1 : ¬ node < 1 := by simpa using h1
  (conv => arg 3; whnf); repeat ((first | (with_reducible apply sT); rfl | (with_reducible apply sF); rfl | (with_reducible apply sE); rfl); conv => arg 3; whnf)
  refine sat_br (fun h2 => ?_) (fun h2 => ?_)
  · have h2 : node > nodes := by simpa using h2
    rw [if_pos (.inr h2)] at hP
    (conv => arg 3; whnf); repeat ((first | (with_reducible apply sT); rfl | (with_reducible apply sF); rfl | (with_reducible apply sE); rfl); conv => arg 3; whnf)
    subst hP
    exact sat_ret ⟨rfl, rfl⟩
  have h2 : ¬ node > nodes := by simpa using h2
  rw [if_neg (by omega)] at hP
  (conv => arg 3; whnf); repeat ((first | (with_reducible apply sT); rfl | (with_reducible apply sF); rfl | (with_reducible apply sE); rfl); conv => arg 3; whnf)
  refine sat_br (fun h3 => ?_) (fun h3 => ?_)
  · have h3 : epoch < 1 := by simpa using h3
    rw [if_pos (.inl h3)] at hP
    (conv => arg 3; whnf); repeat ((first | (with_reducible apply sT); rfl | (with_reducible apply sF); rfl | (with_reducible apply sE); rfl); conv => arg 3; whnf)
    subst hP
    exact sat_ret ⟨rfl, rfl⟩
  have h3 : ¬ epoch < 1 := by simpa using h3
  (conv => arg 3; whnf); repeat ((first | (with_reducible apply sT); rfl | (with_reducible apply sF); rfl | (with_reducible apply sE); rfl); conv => arg 3; whnf)
  refine sat_br (fun h4 => ?_) (fun h4 => ?_)
  · have h4 : epoch > eps.length := by simpa using h4
    rw [if_pos (.inr h4)] at hP
    (conv => arg 3; whnf); repeat ((first | (with_reducible apply sT); rfl | (with_reducible apply sF); rfl | (with_reducible apply sE); rfl); conv => arg 3; whnf)
    subst hP
    exact sat_ret ⟨rfl, rfl⟩
  have h4 : ¬ epoch > eps.length := by simpa using h4
  rw [if_neg (by omega)] at hP
  obtain ⟨j, hj⟩ : ∃ j : Nat, epoch - 1 = j := ⟨(epoch - 1).toNat, by omega⟩
  have hjl : j < eps.length := by omega
  have hu : eps[j]? = some eps[j] := List.getElem?_eq_getElem hjl
  have huy := hy _ (List.mem_of_getElem? hu)
  generalize eps[j] = u at hu huy
  have hut : (eps.map Ep.t)[0 + j]? = some u.t := by rw [Nat.zero_add, List.getElem?_map, hu]; rfl
  rw [hj, Int.toNat_natCast, hu] at hP
  dsimp only at hP
  unfold Lg.ack1 at hP
  dsimp only at hP
  (conv => arg 3; whnf); repeat ((first | (with_reducible apply sT); rfl | (with_reducible apply sF); rfl | (with_reducible apply sE); rfl); conv => arg 3; whnf)
  refine sat_rng (wrap64 (by omega) (by omega)) ?_
  rw [hj]
  (conv => arg 3; whnf); repeat ((first | (with_reducible apply sT); rfl | (with_reducible apply sF); rfl | (with_reducible apply sE); rfl); conv => arg 3; whnf)
  refine sat_asrt (decide_eq_true (by omega)) ?_
  rw [Int.toNat_natCast]
  (conv => arg 3; whnf); repeat ((first | (with_reducible apply sT); rfl | (with_reducible apply sF); rfl | (with_reducible apply sE); rfl); conv => arg 3; whnf)
  refine sat_idx u.t (by omega) (by rw [Int.toNat_natCast]; exact hut) ?_
  (conv => arg 3; whnf); repeat ((first | (with_reducible apply sT); rfl | (with_reducible apply sF); rfl | (with_reducible apply sE); rfl); conv => arg 3; whnf)
  refine sat_br (fun h5 => ?_) (fun h5 => ?_)
  · have h5 : u.phase ≠ 1 := by simpa using h5
    rw [if_pos h5] at hP
    (conv => arg 3; whnf); repeat ((first | (with_reducible apply sT); rfl | (with_reducible apply sF); rfl | (with_reducible apply sE); rfl); conv => arg 3; whnf)
    subst hP
    exact sat_ret ⟨rfl, rfl⟩
  have h5 : ¬ u.phase ≠ 1 := by simpa using h5
  rw [if_neg h5] at hP
  (conv => arg 3; whnf); repeat ((first | (with_reducible apply sT); rfl | (with_reducible apply sF); rfl | (with_reducible apply sE); rfl); conv => arg 3; whnf)
  refine sat_br (fun h6 => ?_) (fun h6 => ?_)
  · have h6 : yes = false := by simpa using h6
    rw [if_pos h6] at hP
    (conv => arg 3; whnf); repeat ((first | (with_reducible apply sT); rfl | (with_reducible apply sF); rfl | (with_reducible apply sE); rfl); conv => arg 3; whnf)
    refine sat_idx u.t (by omega) (by rw [Int.toNat_natCast]; exact hut) ?_
    (conv => arg 3; whnf); repeat ((first | (with_reducible apply sT); rfl | (with_reducible apply sF); rfl | (with_reducible apply sE); rfl); conv => arg 3; whnf)
    subst hP
    refine sat_ret ⟨rfl, ?_⟩
    simp only [List.map_set, List.length_set, Nat.zero_add, Int.toNat_natCast, show (epoch - 1).toNat = j by omega]
  have h6 : ¬ yes = false := by simpa using h6
  rw [if_neg h6] at hP
  (conv => arg 3; whnf); repeat ((first | (with_reducible apply sT); rfl | (with_reducible apply sF); rfl | (with_reducible apply sE); rfl); conv => arg 3; whnf)
  obtain ⟨m, hm⟩ : ∃ m : Nat, node - 1 = m := ⟨(node - 1).toNat, by omega⟩
  have hm4 : m < 4 := by omega
  refine sat_rng (wrap64 (by omega) (by omega)) ?_
  rw [hm]
  (conv => arg 3; whnf); repeat ((first | (with_reducible apply sT); rfl | (with_reducible apply sF); rfl | (with_reducible apply sE); rfl); conv => arg 3; whnf)
  refine sat_asrt (decide_eq_true (by omega)) ?_
  rw [Int.toNat_natCast]
  (conv => arg 3; whnf); repeat ((first | (with_reducible apply sT); rfl | (with_reducible apply sF); rfl | (with_reducible apply sE); rfl); conv => arg 3; whnf)
  refine sat_idx u.t (by omega) (by rw [Int.toNat_natCast]; exact hut) ?_
  (conv => arg 3; whnf); repeat ((first | (with_reducible apply sT); rfl | (with_reducible apply sF); rfl | (with_reducible apply sE); rfl); conv => arg 3; whnf)
  refine sat_asrt (by simp [huy]; omega) ?_
  (conv => arg 3; whnf); repeat ((first | (with_reducible apply sT); rfl | (with_reducible apply sF); rfl | (with_reducible apply sE); rfl); conv => arg 3; whnf)
  have hX : (List.set (eps.map Ep.t) (0 + j) (Ep.t ⟨u.hash, u.phase, u.yes.set m true⟩)) = (eps.set j ⟨u.hash, u.phase, u.yes.set m true⟩).map Ep.t := by rw [Nat.zero_add, List.map_set]
  have hX' : ((eps.set j ⟨u.hash, u.phase, u.yes.set m true⟩).map Ep.t)[0 + j]? = some (Ep.t ⟨u.hash, u.phase, u.yes.set m true⟩) := by rw [← hX, List.getElem?_set_self (by simp; omega)]
  have hys : List.set (List.map Tr.bool u.yes) m (.bool true) = (u.yes.set m true).map Tr.bool := by rw [List.map_set]
  rw [hys, hX]
  have hyl : (u.yes.set m true).length = 4 := by simp [huy]
  have hP1 : P = (⟨nodes, im, eps.set j ⟨u.hash, if ((u.yes.set m true).take nodes.toNat).all id then 2 else 1, u.yes.set m true⟩, q1, q2, q3, q4⟩, ⟨0, epoch, zh⟩) := by
    rw [← hP, hm, hj]; rfl
  clear hP
  have hset : ∀ e : Ep, ((eps.set j ⟨u.hash, u.phase, u.yes.set m true⟩).map Ep.t).set (0 + j) e.t = (eps.set j e).map Ep.t := fun e => by rw [← hX, List.set_set, Nat.zero_add, List.map_set]
  have hph : u.phase = 1 := by omega
  have hlen : (eps.set j ⟨u.hash, u.phase, u.yes.set m true⟩).length = eps.length := by simp
  have hset1 : eps.set j ⟨u.hash, 1, u.yes.set m true⟩ = eps.set j ⟨u.hash, u.phase, u.yes.set m true⟩ := by rw [hph]
  generalize hE : eps.set j ⟨u.hash, u.phase, u.yes.set m true⟩ = E at *
  generalize hY : u.yes.set m true = Y at *
  refine sat_loopOf mkX_ops (σ := { i : Nat // (i : Int) ≤ nodes ∧ (Y.take i).all id = true }) (fun x => [(0, pt 0), (3, pt 3), (4, pt 4), (5, .ptr 2 (0 + j) 0 [] none), (69, ti nodes), (70, ti x.1)])
    (fun _ => [.var (.agg [ti nodes, .mp 1, .sl 2 0 [] 0 eps.length none, .t (.agg [q1.t, q2.t, q3.t, q4.t])]), .map (imT im), .row 37 (E.map Ep.t), .var (Cm.l ⟨kind, client, seq, node, epoch, yes, hash, data⟩), .var (Rp.a ⟨0, 0, zh⟩)]) (fun x => nodes.toNat - x.1)
    (fun ex fr' H' => (ex = .ret ∧ fr' = [(3, pt 3), (4, pt 4), (5, .ptr 2 (0 + j) 0 [] none)] ∧ (Y.take nodes.toNat).all id = false ∧ H' = [.var (.agg [ti nodes, .mp 1, .sl 2 0 [] 0 eps.length none, .t (.agg [q1.t, q2.t, q3.t, q4.t])]), .map (imT im), .row 37 (E.map Ep.t), .var (Cm.l ⟨kind, client, seq, node, epoch, yes, hash, data⟩), .var (Rp.a ⟨0, epoch, zh⟩)]) ∨
      (ex = .exit 1 ∧ fr' = [(3, pt 3), (4, pt 4), (5, .ptr 2 (0 + j) 0 [] none)] ∧ (Y.take nodes.toNat).all id = true ∧ H' = [.var (.agg [ti nodes, .mp 1, .sl 2 0 [] 0 eps.length none, .t (.agg [q1.t, q2.t, q3.t, q4.t])]), .map (imT im), .row 37 (E.map Ep.t), .var (Cm.l ⟨kind, client, seq, node, epoch, yes, hash, data⟩), .var (Rp.a ⟨0, 0, zh⟩)])) ⟨0, by omega, by simp⟩ ?_ ?_
  · rintro ⟨i, hi, hall⟩
    dsimp only [Cm.l, Rp.a]
    (conv => arg 3; whnf); repeat ((first | (with_reducible apply sT); rfl | (with_reducible apply sF); rfl | (with_reducible apply sE); rfl); conv => arg 3; whnf)
    refine sat_br (fun g => ?_) (fun g => ?_)
    · have g : (i : Int) < nodes := by simpa using g
      have hi4 : i < 4 := by omega
      have hyi : Y[i]? = some Y[i] := List.getElem?_eq_getElem (by omega)
      generalize Y[i] = y at hyi
      (conv => arg 3; whnf); repeat ((first | (with_reducible apply sT); rfl | (with_reducible apply sF); rfl | (with_reducible apply sE); rfl); conv => arg 3; whnf)
      refine sat_asrt (decide_eq_true (by omega)) ?_
      rw [Int.toNat_natCast]
      (conv => arg 3; whnf); repeat ((first | (with_reducible apply sT); rfl | (with_reducible apply sF); rfl | (with_reducible apply sE); rfl); conv => arg 3; whnf)
      refine sat_idx _ (by omega) (by rw [Int.toNat_natCast]; exact hX') ?_
      (conv => arg 3; whnf); repeat ((first | (with_reducible apply sT); rfl | (with_reducible apply sF); rfl | (with_reducible apply sE); rfl); conv => arg 3; whnf)
      refine sat_idx (.bool y) (by omega) (by rw [Int.toNat_natCast, List.getElem?_map, hyi]; rfl) ?_
      (conv => arg 3; whnf); repeat ((first | (with_reducible apply sT); rfl | (with_reducible apply sF); rfl | (with_reducible apply sE); rfl); conv => arg 3; whnf)
      refine sat_br (fun g2 => ?_) (fun g2 => ?_)
      · have g2 : y = false := by simpa using g2
        (conv => arg 3; whnf); repeat ((first | (with_reducible apply sT); rfl | (with_reducible apply sF); rfl | (with_reducible apply sE); rfl); conv => arg 3; whnf)
        refine sat_ret (.inl ⟨rfl, rfl, ?_, rfl⟩)
        rw [List.all_eq_false]
        refine ⟨y, ?_, by simp [g2]⟩
        rw [List.mem_iff_getElem?]
        exact ⟨i, by rw [List.getElem?_take, if_pos (by omega), hyi]⟩
      · have g2 : y = true := by simpa using g2
        (conv => arg 3; whnf); repeat ((first | (with_reducible apply sT); rfl | (with_reducible apply sF); rfl | (with_reducible apply sE); rfl); conv => arg 3; whnf)
        refine sat_rng (wrap64 (by omega) (by omega)) ?_
        (conv => arg 3; whnf); repeat ((first | (with_reducible apply sT); rfl | (with_reducible apply sF); rfl | (with_reducible apply sE); rfl); conv => arg 3; whnf)
        refine sat_ret ⟨⟨i + 1, by omega, ?_⟩, rfl, rfl, by show nodes.toNat - (i + 1) < nodes.toNat - i; omega⟩
        rw [List.take_add_one, hyi]
        simp [hall, g2]
    · have g : ¬ (i : Int) < nodes := by simpa using g
      obtain rfl : i = nodes.toNat := by omega
      (conv => arg 3; whnf); repeat ((first | (with_reducible apply sT); rfl | (with_reducible apply sF); rfl | (with_reducible apply sE); rfl); conv => arg 3; whnf)
      exact sat_ret (.inr ⟨rfl, rfl, hall, rfl⟩)
  · rintro ex fr' H' (⟨rfl, rfl, h7, rfl⟩ | ⟨rfl, rfl, h7, rfl⟩)
    · (conv => arg 3; whnf); repeat ((first | (with_reducible apply sT); rfl | (with_reducible apply sF); rfl | (with_reducible apply sE); rfl); conv => arg 3; whnf)
      rw [hP1, h7]
      refine sat_ret ⟨rfl, ?_⟩
      simp only [Bool.false_eq_true, if_false]
      rw [hset1, hlen]
    · (conv => arg 3; whnf); repeat ((first | (with_reducible apply sT); rfl | (with_reducible apply sF); rfl | (with_reducible apply sE); rfl); conv => arg 3; whnf)
      refine sat_idx _ (by omega) (by rw [Int.toNat_natCast]; exact hX') ?_
      (conv => arg 3; whnf); repeat ((first | (with_reducible apply sT); rfl | (with_reducible apply sF); rfl | (with_reducible apply sE); rfl); conv => arg 3; whnf)
      rw [hP1, h7]
      refine sat_ret ⟨rfl, ?_⟩
      simp only [if_true]
      have := hset ⟨u.hash, 2, Y⟩
      rw [← this, List.length_set]
end Stk
end

section
/- The ledger: an image is stored. -/
namespace Stk
open Go
set_option maxRecDepth 100000
set_option linter.unusedSimpArgs false
set_option linter.unusedVariables false
set_option maxHeartbeats 4000000
theorem k_bclone (L : List Tr) (h : L.length ≤ 2 ^ 46) : ACalls PP GG F.bytes_Clone [.bz 1 L] [] fun r H' => r = .sl 0 0 [] 0 L.length none ∧ H' = [.row 1 L] := by
  refine K.bytes_Clone.callsC rfl ?_
  (conv => arg 3; whnf); repeat ((first | (with_reducible apply sT); rfl | (with_reducible apply sF); rfl | (with_reducible apply sE); rfl); conv => arg 3; whnf)
  refine sat_br (fun h1 => ?_) (fun h1 => ?_)
  · have : L = [] := by simpa using h1
    subst this
    refine sat_any ?_ ?_
    · (conv => arg 3; whnf); repeat ((first | (with_reducible apply sT); rfl | (with_reducible apply sF); rfl | (with_reducible apply sE); rfl); conv => arg 3; whnf)
      exact sat_ret ⟨rfl, rfl⟩
    · (conv => arg 3; whnf); repeat ((first | (with_reducible apply sT); rfl | (with_reducible apply sF); rfl | (with_reducible apply sE); rfl); conv => arg 3; whnf)
      refine sat_asrt (by decide) ?_
      (conv => arg 3; whnf); repeat ((first | (with_reducible apply sT); rfl | (with_reducible apply sF); rfl | (with_reducible apply sE); rfl); conv => arg 3; whnf)
      exact sat_ret ⟨rfl, rfl⟩
  · (conv => arg 3; whnf); repeat ((first | (with_reducible apply sT); rfl | (with_reducible apply sF); rfl | (with_reducible apply sE); rfl); conv => arg 3; whnf)
    refine sat_asrt (by simp [roomy]; omega) ?_
    (conv => arg 3; whnf); repeat ((first | (with_reducible apply sT); rfl | (with_reducible apply sF); rfl | (with_reducible apply sE); rfl); conv => arg 3; whnf)
    exact sat_ret ⟨rfl, rfl⟩
theorem allB_isByte {L : List Tr} (h : AllB L) : L.all isByte = true := by
  rw [List.all_eq_true]
  intro y hy
  obtain ⟨v, rfl, h1, h2⟩ := h y hy
  simp [isByte]; omega
theorem byteOf_inj {a b : List Tr} (ha : AllB a) (hb : AllB b) (h : a.map byteOfT = b.map byteOfT) : a = b := by
  apply List.ext_getElem?
  intro i
  have hi := congrArg (·[i]?) h
  simp only [List.getElem?_map] at hi
  cases h1 : a[i]? with
  | none => rw [h1] at hi; cases h2 : b[i]? with
    | none => rfl
    | some y => rw [h2] at hi; cases hi
  | some x => rw [h1] at hi; cases h2 : b[i]? with
    | none => rw [h2] at hi; cases hi
    | some y =>
      rw [h2] at hi
      obtain ⟨v, rfl, v1, v2⟩ := ha x (List.mem_of_getElem? h1)
      obtain ⟨u, rfl, u1, u2⟩ := hb y (List.mem_of_getElem? h2)
      have : UInt8.ofNat v.toNat = UInt8.ofNat u.toNat := Option.some.inj hi
      have := congrArg UInt8.toNat this
      simp only [UInt8.toNat_ofNat'] at this
      have : v = u := by omega
      rw [this]
theorem eqbs_bytes : ∀ {a b : List Tr}, AllB a → AllB b → (Tr.eqbs a b = true ↔ a = b)
  | [], [], _, _ => by simp [Tr.eqbs]
  | [], _ :: _, _, _ => by simp [Tr.eqbs]
  | _ :: _, [], _, _ => by simp [Tr.eqbs]
  | x :: a, y :: b, ha, hb => by
    obtain ⟨v, rfl, _, _⟩ := ha x (by simp)
    obtain ⟨u, rfl, _, _⟩ := hb y (by simp)
    have := eqbs_bytes (a := a) (b := b) (fun z hz => ha z (by simp [hz])) (fun z hz => hb z (by simp [hz]))
    simp only [Tr.eqbs, Tr.eqb, Bool.and_eq_true, beq_iff_eq, this, List.cons.injEq, Tr.int.injEq, true_and]
theorem str_eqb {a b : List Tr} (ha : AllB a) (hb : AllB b) : ((strOf a).toList == (strOf b).toList) = Tr.eqbs a b := by
  rw [Bool.eq_iff_iff, eqbs_bytes ha hb, beq_iff_eq]
  constructor
  · intro h
    have h := toList_inj h
    refine byteOf_inj ha hb ?_
    have : (strOf a).data = (strOf b).data := by rw [h]
    simpa [strOf] using this
  · rintro rfl; rfl
theorem k_bequal (a b : List Tr) (ha : AllB a) (hb : AllB b) : ACalls PP GG F.bytes_Equal [.bz 1 a, .bz 1 b] [] fun r H' => r = tb (Tr.eqbs a b) ∧ H' = [] := by
  refine K.bytes_Equal.callsC rfl ?_
  (conv => arg 3; whnf); repeat ((first | (with_reducible apply sT); rfl | (with_reducible apply sF); rfl | (with_reducible apply sE); rfl); conv => arg 3; whnf)
  refine sat_asrt (allB_isByte ha) ?_
  (conv => arg 3; whnf); repeat ((first | (with_reducible apply sT); rfl | (with_reducible apply sF); rfl | (with_reducible apply sE); rfl); conv => arg 3; whnf)
  refine sat_asrt (allB_isByte hb) ?_
  (conv => arg 3; whnf); repeat ((first | (with_reducible apply sT); rfl | (with_reducible apply sF); rfl | (with_reducible apply sE); rfl); conv => arg 3; whnf)
  refine sat_ret ⟨?_, rfl⟩
  rw [str_eqb ha hb]
theorem w4_b (x : Int) : AllB (w4 x) := by
  intro y hy
  unfold w4 at hy
  simp only [List.mem_cons, List.not_mem_nil, or_false] at hy
  rcases hy with rfl | rfl | rfl | rfl
  · exact ⟨_, rfl, by unfold wv; rw [IntKind.wrap_u8]; omega, by unfold wv; rw [IntKind.wrap_u8]; omega⟩
  · exact ⟨_, rfl, by unfold wv; rw [IntKind.wrap_u8]; omega, by unfold wv; rw [IntKind.wrap_u8]; omega⟩
  · exact ⟨_, rfl, by unfold wv; rw [IntKind.wrap_u8]; omega, by unfold wv; rw [IntKind.wrap_u8]; omega⟩
  · exact ⟨_, rfl, by rw [IntKind.wrap_u8]; omega, by rw [IntKind.wrap_u8]; omega⟩
theorem shaB (L : List Tr) : AllB (shaL L) := by
  unfold shaL outH
  exact (((((((w4_b _).app (w4_b _)).app (w4_b _)).app (w4_b _)).app (w4_b _)).app (w4_b _)).app (w4_b _)).app (w4_b _)
theorem sha_fits (L : List Tr) : Tr.fits (.arr 32 (shaL L)) hSh = true := by
  show (Nat.beq 32 32 && Tr.fitsa (shaL L) (.int .u8)) = true
  rw [show Nat.beq 32 32 = true from rfl, Bool.true_and]
  have : ∀ X : List Tr, AllB X → Tr.fitsa X (.int .u8) = true := by
    intro X
    induction X with
    | nil => intro _; rfl
    | cons x r ih =>
      intro h
      obtain ⟨v, rfl, _, _⟩ := h x (by simp)
      simp only [Tr.fitsa, Tr.fits, kindEq, Bool.true_and]
      exact ih fun z hz => h z (by simp [hz])
  exact this _ (shaB L)
def Lg.store (l : Lg) (L : List Tr) : Lg × Rp :=
  if (decB L).2 ≠ 0 then (l, ⟨5, 0, zh⟩)
  else match findI (shaL L) l.im with
    | some d => if Tr.eqbs d L then (l, ⟨0, 0, shaL L⟩) else (l, ⟨62, 0, shaL L⟩)
    | none => if l.im.length = 16 then (l, ⟨7, 0, shaL L⟩) else ({ l with im := putI (shaL L) L l.im }, ⟨0, 0, shaL L⟩)
theorem k_store (l : Lg) (hl : l.OK) (L : List Tr) (hb : AllB L) (hL : L.length ≤ 2 ^ 40) : ACalls PP GG F.ledger_Ledger_store [pt 0, .bz 1 L] l.H fun r H' => r = (l.store L).2.a ∧ H' = (l.store L).1.D := by
  obtain ⟨hn, he, hk, hy⟩ := hl
  obtain ⟨nodes, im, eps, q1, q2, q3, q4⟩ := l
  generalize hP : Lg.store ⟨nodes, im, eps, q1, q2, q3, q4⟩ L = P
  unfold Lg.store at hP
  have kd := k_decode L hb (by omega)
  dsimp only [Lg.H, Lg.D, Lg.v, Rp.a] at *
  refine K.ledger_Ledger_store.callsC rfl ?_
  (conv => arg 3; whnf); repeat ((first | (with_reducible apply sT); rfl | (with_reducible apply sF); rfl | (with_reducible apply sE); rfl); conv => arg 3; whnf)
  refine sat_call kd ?_
  rintro r H' ⟨rfl, rfl⟩
  clear kd
  generalize decB L = dd at *
  obtain ⟨⟨f, A, g, B⟩, ee⟩ := dd
  dsimp only at hP ⊢
  rcases A with _ | ⟨a, A⟩ <;> rcases B with _ | ⟨b, B⟩
  all_goals
    (conv => arg 3; whnf); repeat ((first | (with_reducible apply sT); rfl | (with_reducible apply sF); rfl | (with_reducible apply sE); rfl); conv => arg 3; whnf)
    refine sat_br (fun h1 => ?_) (fun h1 => ?_)
    · have h1 : ee ≠ 0 := by simpa using h1
      rw [if_pos h1] at hP
      (conv => arg 3; whnf); repeat ((first | (with_reducible apply sT); rfl | (with_reducible apply sF); rfl | (with_reducible apply sE); rfl); conv => arg 3; whnf)
      subst hP
      exact sat_ret ⟨rfl, rfl⟩
    have h1 : ¬ ee ≠ 0 := by simpa using h1
    rw [if_neg h1] at hP
    (conv => arg 3; whnf); repeat ((first | (with_reducible apply sT); rfl | (with_reducible apply sF); rfl | (with_reducible apply sE); rfl); conv => arg 3; whnf)
    refine sat_call (k_sum L hb (by omega)) ?_
    rintro r H' ⟨rfl, rfl⟩
    (conv => arg 3; whnf); repeat ((first | (with_reducible apply sT); rfl | (with_reducible apply sF); rfl | (with_reducible apply sE); rfl); conv => arg 3; whnf)
    refine sat_asrt (fitsKeys (sha_fits L) hk) ?_
    rw [mfind_imT]
    cases hm : findI (shaL L) im with
    | some d =>
      rw [hm] at hP
      dsimp only at hP
      obtain ⟨p, hp, rfl⟩ := findI_mem hm
      (conv => arg 3; whnf); repeat ((first | (with_reducible apply sT); rfl | (with_reducible apply sF); rfl | (with_reducible apply sE); rfl); conv => arg 3; whnf)
      refine sat_call (k_bequal p.2 L (hk p hp).2 hb) ?_
      rintro r H' ⟨rfl, rfl⟩
      (conv => arg 3; whnf); repeat ((first | (with_reducible apply sT); rfl | (with_reducible apply sF); rfl | (with_reducible apply sE); rfl); conv => arg 3; whnf)
      refine sat_br (fun h2 => ?_) (fun h2 => ?_)
      · have h2 : ¬ Tr.eqbs p.2 L = true := by simpa using h2
        rw [if_neg h2] at hP
        (conv => arg 3; whnf); repeat ((first | (with_reducible apply sT); rfl | (with_reducible apply sF); rfl | (with_reducible apply sE); rfl); conv => arg 3; whnf)
        subst hP
        exact sat_ret ⟨rfl, rfl⟩
      · have h2 : Tr.eqbs p.2 L = true := by simpa using h2
        rw [if_pos h2] at hP
        (conv => arg 3; whnf); repeat ((first | (with_reducible apply sT); rfl | (with_reducible apply sF); rfl | (with_reducible apply sE); rfl); conv => arg 3; whnf)
        subst hP
        exact sat_ret ⟨rfl, rfl⟩
    | none =>
      rw [hm] at hP
      dsimp only at hP
      (conv => arg 3; whnf); repeat ((first | (with_reducible apply sT); rfl | (with_reducible apply sF); rfl | (with_reducible apply sE); rfl); conv => arg 3; whnf)
      refine sat_br (fun h2 => ?_) (fun h2 => ?_)
      · have h2 : im.length = 16 := by
          have : ((imT im).length : Int) = 16 := by simpa using h2
          simp [imT] at this; omega
        rw [if_pos h2] at hP
        (conv => arg 3; whnf); repeat ((first | (with_reducible apply sT); rfl | (with_reducible apply sF); rfl | (with_reducible apply sE); rfl); conv => arg 3; whnf)
        subst hP
        exact sat_ret ⟨rfl, rfl⟩
      · have h2 : ¬ im.length = 16 := by
          have : ¬ ((imT im).length : Int) = 16 := by simpa using h2
          simp [imT] at this; omega
        rw [if_neg h2] at hP
        (conv => arg 3; whnf); repeat ((first | (with_reducible apply sT); rfl | (with_reducible apply sF); rfl | (with_reducible apply sE); rfl); conv => arg 3; whnf)
        refine sat_call (k_bclone L (by omega)) ?_
        rintro r H' ⟨rfl, rfl⟩
        (conv => arg 3; whnf); repeat ((first | (with_reducible apply sT); rfl | (with_reducible apply sF); rfl | (with_reducible apply sE); rfl); conv => arg 3; whnf)
        refine sat_asrt (fitsKeys (sha_fits L) hk) ?_
        rw [show List.take L.length (List.drop 0 L) = L by simp, mput_imT]
        (conv => arg 3; whnf); repeat ((first | (with_reducible apply sT); rfl | (with_reducible apply sF); rfl | (with_reducible apply sE); rfl); conv => arg 3; whnf)
        subst hP
        exact sat_ret ⟨rfl, rfl⟩
end Stk
end

section
/- The ledger: a client's request is done once; a command is done. -/
namespace Stk
open Go
set_option maxRecDepth 100000
set_option linter.unusedSimpArgs false
set_option linter.unusedVariables false
set_option maxHeartbeats 4000000
/-- A ledger whose blocks are named otherwise, ahead of it a box. -/
abbrev Lg.H2 (l : Lg) (c : Cm) : Hp := [.var (pt 1), .var (.agg [ti l.nodes, .mp 2, .sl 3 0 [] 0 l.eps.length none, .t (.agg [l.q1.t, l.q2.t, l.q3.t, l.q4.t])]), .map (imT l.im), .row 37 (l.eps.map Ep.t), .var c.l]
abbrev Lg.D2 (l : Lg) (c : Cm) : Hp := [.var (pt 1), .var (.agg [ti l.nodes, .mp 2, .sl 5 0 [] 0 l.eps.length none, .t (.agg [l.q1.t, l.q2.t, l.q3.t, l.q4.t])]), .map (imT l.im), .gone, .var c.l, .row 37 (l.eps.map Ep.t)]
theorem k_do1 (l : Lg) (hl : l.OK) (c : Cm) (hc : c.OK) : ACalls PP GG F.ledger_Ledger_Apply_1 [pt 0, pt 4] (l.H2 c) fun r H' => r = (l.store c.data).2.a ∧ H' = (l.store c.data).1.D2 c := by
  have ks := k_store l hl c.data hc.hb hc.hl
  generalize l.store c.data = P at *
  obtain ⟨⟨n', im', eps', q1', q2', q3', q4'⟩, r'⟩ := P
  obtain ⟨nodes, im, eps, q1, q2, q3, q4⟩ := l
  obtain ⟨kind, client, seq, node, epoch, yes, hash, data⟩ := c
  dsimp only [Lg.H, Lg.D, Lg.v, Cm.l, Lg.H2, Lg.D2, Rp.a] at *
  refine K.ledger_Ledger_Apply_1.callsC rfl ?_
  (conv => arg 3; whnf); repeat ((first | (with_reducible apply sT); rfl | (with_reducible apply sF); rfl | (with_reducible apply sE); rfl); conv => arg 3; whnf)
  refine sat_call ks ?_
  rintro r H' ⟨rfl, rfl⟩
  (conv => arg 3; whnf); repeat ((first | (with_reducible apply sT); rfl | (with_reducible apply sF); rfl | (with_reducible apply sE); rfl); conv => arg 3; whnf)
  exact sat_ret ⟨rfl, rfl⟩
theorem k_do2 (l : Lg) (hl : l.OK) (c : Cm) (hc : c.OK) : ACalls PP GG F.ledger_Ledger_Apply_2 [pt 0, pt 4] (l.H2 c) fun r H' => r = (l.propose c.hash).2.a ∧ H' = (l.propose c.hash).1.D2 c := by
  have ks := k_propose l hl c.hash hc.hh
  generalize l.propose c.hash = P at *
  obtain ⟨⟨n', im', eps', q1', q2', q3', q4'⟩, r'⟩ := P
  obtain ⟨nodes, im, eps, q1, q2, q3, q4⟩ := l
  obtain ⟨kind, client, seq, node, epoch, yes, hash, data⟩ := c
  dsimp only [Lg.H, Lg.D, Lg.v, Cm.l, Lg.H2, Lg.D2, Rp.a] at *
  refine K.ledger_Ledger_Apply_2.callsC rfl ?_
  (conv => arg 3; whnf); repeat ((first | (with_reducible apply sT); rfl | (with_reducible apply sF); rfl | (with_reducible apply sE); rfl); conv => arg 3; whnf)
  refine sat_call ks ?_
  rintro r H' ⟨rfl, rfl⟩
  (conv => arg 3; whnf); repeat ((first | (with_reducible apply sT); rfl | (with_reducible apply sF); rfl | (with_reducible apply sE); rfl); conv => arg 3; whnf)
  exact sat_ret ⟨rfl, rfl⟩
/-- A client's last request. -/
def Lg.q (l : Lg) (k : Int) : Rq := if k = 1 then l.q1 else if k = 2 then l.q2 else if k = 3 then l.q3 else l.q4
def Lg.setq (l : Lg) (k : Int) (x : Rq) : Lg := if k = 1 then { l with q1 := x } else if k = 2 then { l with q2 := x } else if k = 3 then { l with q3 := x } else { l with q4 := x }
def Lg.once (l : Lg) (c : Cm) (f : Lg × Rp) : Lg × Rp :=
  if c.client < 1 ∨ c.client > 4 ∨ c.seq < 1 then (l, ⟨1, 0, zh⟩)
  else if c.seq < (l.q c.client).seq then (l, ⟨61, 0, zh⟩)
  else if c.seq > (l.q c.client).seq then (f.1.setq c.client ⟨c.seq, f.2⟩, f.2)
  else (l, (l.q c.client).r)
abbrev Lg.H3 (l : Lg) (c : Cm) : Hp := [.var (l.v 2), .map (imT l.im), .row 37 (l.eps.map Ep.t), .var (pt 0), .var c.l]
abbrev Lg.D3 (l : Lg) (c : Cm) : Hp := [.var (l.v 5), .map (imT l.im), .gone, .var (pt 0), .var c.l, .row 37 (l.eps.map Ep.t)]
theorem k_once1 (l : Lg) (hl : l.OK) (c : Cm) (hc : c.OK) : ACalls PP GG F.ledger_Ledger_once [pt 0, c.l, .fn F.ledger_Ledger_Apply_1 [] [pt 3, pt 4]] (l.H3 c) fun r H' => r = (l.once c (l.store c.data)).2.a ∧ H' = (l.once c (l.store c.data)).1.D3 c := by
  have kd := k_do1 l hl c hc
  obtain ⟨_, _, c3, c4, _, _, _⟩ := hc
  generalize hF : l.store c.data = P at *
  generalize hP : l.once c P = R
  unfold Lg.once at hP
  obtain ⟨⟨n', im', eps', q1', q2', q3', q4'⟩, r'⟩ := P
  obtain ⟨nodes, im, eps, q1, q2, q3, q4⟩ := l
  obtain ⟨kind, client, seq, node, epoch, yes, hash, data⟩ := c
  dsimp only [Lg.H, Lg.D, Lg.v, Cm.l, Lg.H2, Lg.D2, Lg.H3, Lg.D3, Rp.a] at *
  refine K.ledger_Ledger_once.callsC rfl ?_
  (conv => arg 3; whnf); repeat ((first | (with_reducible apply sT); rfl | (with_reducible apply sF); rfl | (with_reducible apply sE); rfl); conv => arg 3; whnf)
  refine sat_br (fun h1 => ?_) (fun h1 => ?_)
  · have h1 : client < 1 := by simpa using h1
    rw [if_pos (.inl h1)] at hP
    (conv => arg 3; whnf); repeat ((first | (with_reducible apply sT); rfl | (with_reducible apply sF); rfl | (with_reducible apply sE); rfl); conv => arg 3; whnf)
    subst hP
    exact sat_ret ⟨rfl, rfl⟩
  have h1 : ¬ client < 1 := by simpa using h1
  (conv => arg 3; whnf); repeat ((first | (with_reducible apply sT); rfl | (with_reducible apply sF); rfl | (with_reducible apply sE); rfl); conv => arg 3; whnf)
  refine sat_br (fun h2 => ?_) (fun h2 => ?_)
  · have h2 : client > 4 := by simpa using h2
    rw [if_pos (.inr (.inl h2))] at hP
    (conv => arg 3; whnf); repeat ((first | (with_reducible apply sT); rfl | (with_reducible apply sF); rfl | (with_reducible apply sE); rfl); conv => arg 3; whnf)
    subst hP
    exact sat_ret ⟨rfl, rfl⟩
  have h2 : ¬ client > 4 := by simpa using h2
  (conv => arg 3; whnf); repeat ((first | (with_reducible apply sT); rfl | (with_reducible apply sF); rfl | (with_reducible apply sE); rfl); conv => arg 3; whnf)
  refine sat_br (fun h3 => ?_) (fun h3 => ?_)
  · have h3 : seq < 1 := by simpa using h3
    rw [if_pos (.inr (.inr h3))] at hP
    (conv => arg 3; whnf); repeat ((first | (with_reducible apply sT); rfl | (with_reducible apply sF); rfl | (with_reducible apply sE); rfl); conv => arg 3; whnf)
    subst hP
    exact sat_ret ⟨rfl, rfl⟩
  have h3 : ¬ seq < 1 := by simpa using h3
  rw [if_neg (by omega)] at hP
  have h4 : client = 1 ∨ client = 2 ∨ client = 3 ∨ client = 4 := by omega
  rcases h4 with rfl | rfl | rfl | rfl
  all_goals
    (conv => arg 3; whnf); repeat ((first | (with_reducible apply sT); rfl | (with_reducible apply sF); rfl | (with_reducible apply sE); rfl); conv => arg 3; whnf)
    refine sat_rng (wrap64 (by omega) (by omega)) ?_
    (conv => arg 3; whnf); repeat ((first | (with_reducible apply sT); rfl | (with_reducible apply sF); rfl | (with_reducible apply sE); rfl); conv => arg 3; whnf)
    refine sat_asrt (by decide) ?_
    (conv => arg 3; whnf); repeat ((first | (with_reducible apply sT); rfl | (with_reducible apply sF); rfl | (with_reducible apply sE); rfl); conv => arg 3; whnf)
    refine sat_br (fun h5 => ?_) (fun h5 => ?_)
    · rw [if_pos (by simpa [Lg.q] using h5)] at hP
      (conv => arg 3; whnf); repeat ((first | (with_reducible apply sT); rfl | (with_reducible apply sF); rfl | (with_reducible apply sE); rfl); conv => arg 3; whnf)
      subst hP
      exact sat_ret ⟨rfl, rfl⟩
    · rw [if_neg (by simpa [Lg.q] using h5)] at hP
      (conv => arg 3; whnf); repeat ((first | (with_reducible apply sT); rfl | (with_reducible apply sF); rfl | (with_reducible apply sE); rfl); conv => arg 3; whnf)
      refine sat_br (fun h6 => ?_) (fun h6 => ?_)
      · rw [if_pos (by simpa [Lg.q] using h6)] at hP
        (conv => arg 3; whnf); repeat ((first | (with_reducible apply sT); rfl | (with_reducible apply sF); rfl | (with_reducible apply sE); rfl); conv => arg 3; whnf)
        refine sat_call kd ?_
        rintro r H' ⟨rfl, rfl⟩
        (conv => arg 3; whnf); repeat ((first | (with_reducible apply sT); rfl | (with_reducible apply sF); rfl | (with_reducible apply sE); rfl); conv => arg 3; whnf)
        subst hP
        exact sat_ret ⟨rfl, rfl⟩
      · rw [if_neg (by simpa [Lg.q] using h6)] at hP
        (conv => arg 3; whnf); repeat ((first | (with_reducible apply sT); rfl | (with_reducible apply sF); rfl | (with_reducible apply sE); rfl); conv => arg 3; whnf)
        subst hP
        exact sat_ret ⟨rfl, rfl⟩
theorem k_once2 (l : Lg) (hl : l.OK) (c : Cm) (hc : c.OK) : ACalls PP GG F.ledger_Ledger_once [pt 0, c.l, .fn F.ledger_Ledger_Apply_2 [] [pt 3, pt 4]] (l.H3 c) fun r H' => r = (l.once c (l.propose c.hash)).2.a ∧ H' = (l.once c (l.propose c.hash)).1.D3 c := by
  have kd := k_do2 l hl c hc
  obtain ⟨_, _, c3, c4, _, _, _⟩ := hc
  generalize hF : l.propose c.hash = P at *
  generalize hP : l.once c P = R
  unfold Lg.once at hP
  obtain ⟨⟨n', im', eps', q1', q2', q3', q4'⟩, r'⟩ := P
  obtain ⟨nodes, im, eps, q1, q2, q3, q4⟩ := l
  obtain ⟨kind, client, seq, node, epoch, yes, hash, data⟩ := c
  dsimp only [Lg.H, Lg.D, Lg.v, Cm.l, Lg.H2, Lg.D2, Lg.H3, Lg.D3, Rp.a] at *
  refine K.ledger_Ledger_once.callsC rfl ?_
  (conv => arg 3; whnf); repeat ((first | (with_reducible apply sT); rfl | (with_reducible apply sF); rfl | (with_reducible apply sE); rfl); conv => arg 3; whnf)
  refine sat_br (fun h1 => ?_) (fun h1 => ?_)
  · have h1 : client < 1 := by simpa using h1
    rw [if_pos (.inl h1)] at hP
    (conv => arg 3; whnf); repeat ((first | (with_reducible apply sT); rfl | (with_reducible apply sF); rfl | (with_reducible apply sE); rfl); conv => arg 3; whnf)
    subst hP
    exact sat_ret ⟨rfl, rfl⟩
  have h1 : ¬ client < 1 := by simpa using h1
  (conv => arg 3; whnf); repeat ((first | (with_reducible apply sT); rfl | (with_reducible apply sF); rfl | (with_reducible apply sE); rfl); conv => arg 3; whnf)
  refine sat_br (fun h2 => ?_) (fun h2 => ?_)
  · have h2 : client > 4 := by simpa using h2
    rw [if_pos (.inr (.inl h2))] at hP
    (conv => arg 3; whnf); repeat ((first | (with_reducible apply sT); rfl | (with_reducible apply sF); rfl | (with_reducible apply sE); rfl); conv => arg 3; whnf)
    subst hP
    exact sat_ret ⟨rfl, rfl⟩
  have h2 : ¬ client > 4 := by simpa using h2
  (conv => arg 3; whnf); repeat ((first | (with_reducible apply sT); rfl | (with_reducible apply sF); rfl | (with_reducible apply sE); rfl); conv => arg 3; whnf)
  refine sat_br (fun h3 => ?_) (fun h3 => ?_)
  · have h3 : seq < 1 := by simpa using h3
    rw [if_pos (.inr (.inr h3))] at hP
    (conv => arg 3; whnf); repeat ((first | (with_reducible apply sT); rfl | (with_reducible apply sF); rfl | (with_reducible apply sE); rfl); conv => arg 3; whnf)
    subst hP
    exact sat_ret ⟨rfl, rfl⟩
  have h3 : ¬ seq < 1 := by simpa using h3
  rw [if_neg (by omega)] at hP
  have h4 : client = 1 ∨ client = 2 ∨ client = 3 ∨ client = 4 := by omega
  rcases h4 with rfl | rfl | rfl | rfl
  all_goals
    (conv => arg 3; whnf); repeat ((first | (with_reducible apply sT); rfl | (with_reducible apply sF); rfl | (with_reducible apply sE); rfl); conv => arg 3; whnf)
    refine sat_rng (wrap64 (by omega) (by omega)) ?_
    (conv => arg 3; whnf); repeat ((first | (with_reducible apply sT); rfl | (with_reducible apply sF); rfl | (with_reducible apply sE); rfl); conv => arg 3; whnf)
    refine sat_asrt (by decide) ?_
    (conv => arg 3; whnf); repeat ((first | (with_reducible apply sT); rfl | (with_reducible apply sF); rfl | (with_reducible apply sE); rfl); conv => arg 3; whnf)
    refine sat_br (fun h5 => ?_) (fun h5 => ?_)
    · rw [if_pos (by simpa [Lg.q] using h5)] at hP
      (conv => arg 3; whnf); repeat ((first | (with_reducible apply sT); rfl | (with_reducible apply sF); rfl | (with_reducible apply sE); rfl); conv => arg 3; whnf)
      subst hP
      exact sat_ret ⟨rfl, rfl⟩
    · rw [if_neg (by simpa [Lg.q] using h5)] at hP
      (conv => arg 3; whnf); repeat ((first | (with_reducible apply sT); rfl | (with_reducible apply sF); rfl | (with_reducible apply sE); rfl); conv => arg 3; whnf)
      refine sat_br (fun h6 => ?_) (fun h6 => ?_)
      · rw [if_pos (by simpa [Lg.q] using h6)] at hP
        (conv => arg 3; whnf); repeat ((first | (with_reducible apply sT); rfl | (with_reducible apply sF); rfl | (with_reducible apply sE); rfl); conv => arg 3; whnf)
        refine sat_call kd ?_
        rintro r H' ⟨rfl, rfl⟩
        (conv => arg 3; whnf); repeat ((first | (with_reducible apply sT); rfl | (with_reducible apply sF); rfl | (with_reducible apply sE); rfl); conv => arg 3; whnf)
        subst hP
        exact sat_ret ⟨rfl, rfl⟩
      · rw [if_neg (by simpa [Lg.q] using h6)] at hP
        (conv => arg 3; whnf); repeat ((first | (with_reducible apply sT); rfl | (with_reducible apply sF); rfl | (with_reducible apply sE); rfl); conv => arg 3; whnf)
        subst hP
        exact sat_ret ⟨rfl, rfl⟩
def Lg.apply (l : Lg) (c : Cm) : Lg × Rp :=
  if c.kind = 0 then (l, ⟨0, 0, zh⟩) else if c.kind = 1 then l.once c (l.store c.data) else if c.kind = 2 then l.once c (l.propose c.hash) else if c.kind = 3 then l.ack c else (l, ⟨1, 0, zh⟩)
theorem k_apply (l : Lg) (hl : l.OK) (c : Cm) (hc : c.OK) : ACalls PP GG F.ledger_Ledger_Apply [pt 0, c.l] l.H fun r H' => r = (l.apply c).2.a ∧ H' = (l.apply c).1.D := by
  have km := k_made l hl.hn.1
  have k1 := k_once1 l hl c hc
  have k2 := k_once2 l hl c hc
  have k3 := k_ack l hl c hc
  generalize hP : l.apply c = R
  unfold Lg.apply at hP
  generalize l.once c (l.store c.data) = P1 at *
  generalize l.once c (l.propose c.hash) = P2 at *
  generalize l.ack c = P3 at *
  obtain ⟨⟨n1, im1, eps1, a1, a2, a3, a4⟩, r1⟩ := P1
  obtain ⟨⟨n2, im2, eps2, b1, b2, b3, b4⟩, r2⟩ := P2
  obtain ⟨⟨n3, im3, eps3, d1, d2, d3, d4⟩, r3⟩ := P3
  obtain ⟨nodes, im, eps, q1, q2, q3, q4⟩ := l
  obtain ⟨kind, client, seq, node, epoch, yes, hash, data⟩ := c
  dsimp only [Lg.H, Lg.D, Lg.v, Cm.l, Lg.H3, Lg.D3, Rp.a] at *
  refine K.ledger_Ledger_Apply.callsC rfl ?_
  (conv => arg 3; whnf); repeat ((first | (with_reducible apply sT); rfl | (with_reducible apply sF); rfl | (with_reducible apply sE); rfl); conv => arg 3; whnf)
  refine sat_call km ?_
  rintro r H' ⟨rfl, rfl⟩
  (conv => arg 3; whnf); repeat ((first | (with_reducible apply sT); rfl | (with_reducible apply sF); rfl | (with_reducible apply sE); rfl); conv => arg 3; whnf)
  refine sat_br (fun h1 => ?_) (fun h1 => ?_)
  · rw [if_pos (by simpa using h1)] at hP
    (conv => arg 3; whnf); repeat ((first | (with_reducible apply sT); rfl | (with_reducible apply sF); rfl | (with_reducible apply sE); rfl); conv => arg 3; whnf)
    subst hP
    exact sat_ret ⟨rfl, rfl⟩
  rw [if_neg (by simpa using h1)] at hP
  (conv => arg 3; whnf); repeat ((first | (with_reducible apply sT); rfl | (with_reducible apply sF); rfl | (with_reducible apply sE); rfl); conv => arg 3; whnf)
  refine sat_br (fun h1 => ?_) (fun h1 => ?_)
  · rw [if_pos (by simpa using h1)] at hP
    (conv => arg 3; whnf); repeat ((first | (with_reducible apply sT); rfl | (with_reducible apply sF); rfl | (with_reducible apply sE); rfl); conv => arg 3; whnf)
    refine sat_call k1 ?_
    rintro r H' ⟨rfl, rfl⟩
    (conv => arg 3; whnf); repeat ((first | (with_reducible apply sT); rfl | (with_reducible apply sF); rfl | (with_reducible apply sE); rfl); conv => arg 3; whnf)
    subst hP
    exact sat_ret ⟨rfl, rfl⟩
  rw [if_neg (by simpa using h1)] at hP
  (conv => arg 3; whnf); repeat ((first | (with_reducible apply sT); rfl | (with_reducible apply sF); rfl | (with_reducible apply sE); rfl); conv => arg 3; whnf)
  refine sat_br (fun h1 => ?_) (fun h1 => ?_)
  · rw [if_pos (by simpa using h1)] at hP
    (conv => arg 3; whnf); repeat ((first | (with_reducible apply sT); rfl | (with_reducible apply sF); rfl | (with_reducible apply sE); rfl); conv => arg 3; whnf)
    refine sat_call k2 ?_
    rintro r H' ⟨rfl, rfl⟩
    (conv => arg 3; whnf); repeat ((first | (with_reducible apply sT); rfl | (with_reducible apply sF); rfl | (with_reducible apply sE); rfl); conv => arg 3; whnf)
    subst hP
    exact sat_ret ⟨rfl, rfl⟩
  rw [if_neg (by simpa using h1)] at hP
  (conv => arg 3; whnf); repeat ((first | (with_reducible apply sT); rfl | (with_reducible apply sF); rfl | (with_reducible apply sE); rfl); conv => arg 3; whnf)
  refine sat_br (fun h1 => ?_) (fun h1 => ?_)
  · rw [if_pos (by simpa using h1)] at hP
    (conv => arg 3; whnf); repeat ((first | (with_reducible apply sT); rfl | (with_reducible apply sF); rfl | (with_reducible apply sE); rfl); conv => arg 3; whnf)
    refine sat_call k3 ?_
    rintro r H' ⟨rfl, rfl⟩
    (conv => arg 3; whnf); repeat ((first | (with_reducible apply sT); rfl | (with_reducible apply sF); rfl | (with_reducible apply sE); rfl); conv => arg 3; whnf)
    subst hP
    exact sat_ret ⟨rfl, rfl⟩
  rw [if_neg (by simpa using h1)] at hP
  (conv => arg 3; whnf); repeat ((first | (with_reducible apply sT); rfl | (with_reducible apply sF); rfl | (with_reducible apply sE); rfl); conv => arg 3; whnf)
  subst hP
  exact sat_ret ⟨rfl, rfl⟩
end Stk
end

section
/- The ledger: what it tells; a new one. -/
namespace Stk
open Go
set_option maxRecDepth 100000
set_option linter.unusedSimpArgs false
set_option linter.unusedVariables false
set_option maxHeartbeats 4000000
theorem k_eclone (L : List Tr) (h : L.length ≤ 2 ^ 20) : ACalls PP GG F.slices_Clone_ledger_Epoch_ledger_Epoch [.bz 37 L] [] fun r H' => r = .sl 0 0 [] 0 L.length none ∧ H' = [.row 37 L] := by
  refine K.slices_Clone_ledger_Epoch_ledger_Epoch.callsC rfl ?_
  (conv => arg 3; whnf); repeat ((first | (with_reducible apply sT); rfl | (with_reducible apply sF); rfl | (with_reducible apply sE); rfl); conv => arg 3; whnf)
  refine sat_br (fun h1 => ?_) (fun h1 => ?_)
  · have : L = [] := by simpa using h1
    subst this
    refine sat_any ?_ ?_
    · (conv => arg 3; whnf); repeat ((first | (with_reducible apply sT); rfl | (with_reducible apply sF); rfl | (with_reducible apply sE); rfl); conv => arg 3; whnf)
      exact sat_ret ⟨rfl, rfl⟩
    · (conv => arg 3; whnf); repeat ((first | (with_reducible apply sT); rfl | (with_reducible apply sF); rfl | (with_reducible apply sE); rfl); conv => arg 3; whnf)
      refine sat_asrt (by decide) ?_
      (conv => arg 3; whnf); repeat ((first | (with_reducible apply sT); rfl | (with_reducible apply sF); rfl | (with_reducible apply sE); rfl); conv => arg 3; whnf)
      exact sat_ret ⟨rfl, rfl⟩
  · (conv => arg 3; whnf); repeat ((first | (with_reducible apply sT); rfl | (with_reducible apply sF); rfl | (with_reducible apply sE); rfl); conv => arg 3; whnf)
    refine sat_asrt (by simp [roomy]; omega) ?_
    (conv => arg 3; whnf); repeat ((first | (with_reducible apply sT); rfl | (with_reducible apply sF); rfl | (with_reducible apply sE); rfl); conv => arg 3; whnf)
    exact sat_ret ⟨rfl, rfl⟩
theorem k_epochs (l : Lg) (hl : l.OK) : ACalls PP GG F.ledger_Ledger_Epochs [pt 0] l.H fun r H' => r = .sl 4 0 [] 0 l.eps.length none ∧ H' = l.D ++ [.row 37 (l.eps.map Ep.t)] := by
  have km := k_made l hl.hn.1
  obtain ⟨hn, he, hk, hy⟩ := hl
  obtain ⟨nodes, im, eps, q1, q2, q3, q4⟩ := l
  dsimp only [Lg.H, Lg.D, Lg.v] at *
  refine K.ledger_Ledger_Epochs.callsC rfl ?_
  (conv => arg 3; whnf); repeat ((first | (with_reducible apply sT); rfl | (with_reducible apply sF); rfl | (with_reducible apply sE); rfl); conv => arg 3; whnf)
  refine sat_call km ?_
  rintro r H' ⟨rfl, rfl⟩
  (conv => arg 3; whnf); repeat ((first | (with_reducible apply sT); rfl | (with_reducible apply sF); rfl | (with_reducible apply sE); rfl); conv => arg 3; whnf)
  rw [show List.take eps.length (List.drop 0 (eps.map Ep.t)) = eps.map Ep.t by rw [List.drop_zero, List.take_of_length_le (by simp)]]
  refine sat_call (k_eclone (eps.map Ep.t) (by simp; omega)) ?_
  rintro r H' ⟨rfl, rfl⟩
  (conv => arg 3; whnf); repeat ((first | (with_reducible apply sT); rfl | (with_reducible apply sF); rfl | (with_reducible apply sE); rfl); conv => arg 3; whnf)
  refine sat_ret ⟨?_, rfl⟩
  rw [List.length_map]
theorem k_image (l : Lg) (hl : l.OK) (h : List Tr) (hh : Tr.fits (.arr 32 h) hSh = true) (hd : ∀ p ∈ l.im, p.2.length ≤ 2 ^ 40) : ACalls PP GG F.ledger_Ledger_Image [pt 0, .t (.arr 32 h)] l.H fun r H' =>
    r = .tup [.sl 4 0 [] 0 ((findI h l.im).getD []).length none, tb (findI h l.im).isSome] ∧ H' = l.D ++ [.row 1 ((findI h l.im).getD [])] := by
  have km := k_made l hl.hn.1
  obtain ⟨hn, he, hk, hy⟩ := hl
  obtain ⟨nodes, im, eps, q1, q2, q3, q4⟩ := l
  dsimp only [Lg.H, Lg.D, Lg.v] at *
  refine K.ledger_Ledger_Image.callsC rfl ?_
  (conv => arg 3; whnf); repeat ((first | (with_reducible apply sT); rfl | (with_reducible apply sF); rfl | (with_reducible apply sE); rfl); conv => arg 3; whnf)
  refine sat_call km ?_
  rintro r H' ⟨rfl, rfl⟩
  (conv => arg 3; whnf); repeat ((first | (with_reducible apply sT); rfl | (with_reducible apply sF); rfl | (with_reducible apply sE); rfl); conv => arg 3; whnf)
  refine sat_asrt (fitsKeys hh hk) ?_
  rw [mfind_imT]
  cases hm : findI h im with
  | none =>
    (conv => arg 3; whnf); repeat ((first | (with_reducible apply sT); rfl | (with_reducible apply sF); rfl | (with_reducible apply sE); rfl); conv => arg 3; whnf)
    refine sat_call (k_bclone [] (by decide)) ?_
    rintro r H' ⟨rfl, rfl⟩
    (conv => arg 3; whnf); repeat ((first | (with_reducible apply sT); rfl | (with_reducible apply sF); rfl | (with_reducible apply sE); rfl); conv => arg 3; whnf)
    exact sat_ret ⟨rfl, rfl⟩
  | some d =>
    obtain ⟨p, hp, rfl⟩ := findI_mem hm
    (conv => arg 3; whnf); repeat ((first | (with_reducible apply sT); rfl | (with_reducible apply sF); rfl | (with_reducible apply sE); rfl); conv => arg 3; whnf)
    refine sat_call (k_bclone p.2 (by have := hd p hp; omega)) ?_
    rintro r H' ⟨rfl, rfl⟩
    (conv => arg 3; whnf); repeat ((first | (with_reducible apply sT); rfl | (with_reducible apply sF); rfl | (with_reducible apply sE); rfl); conv => arg 3; whnf)
    exact sat_ret ⟨rfl, rfl⟩
abbrev rq0 : Rq := ⟨0, ⟨0, 0, zh⟩⟩
def Lg.new (n : Int) : Lg := ⟨n, [], [], rq0, rq0, rq0, rq0⟩
theorem k_new_l (n : Int) (h : 1 ≤ n ∧ n ≤ 4) : ACalls PP GG F.ledger_New [ti n] [] fun r H' => r = .tup [pt 0, ti 0] ∧ H' = (Lg.new n).H := by
  refine K.ledger_New.callsC rfl ?_
  (conv => arg 3; whnf); repeat ((first | (with_reducible apply sT); rfl | (with_reducible apply sF); rfl | (with_reducible apply sE); rfl); conv => arg 3; whnf)
  refine sat_brF (decide_eq_false (by omega)) ?_
  (conv => arg 3; whnf); repeat ((first | (with_reducible apply sT); rfl | (with_reducible apply sF); rfl | (with_reducible apply sE); rfl); conv => arg 3; whnf)
  refine sat_brF (decide_eq_false (by omega)) ?_
  (conv => arg 3; whnf); repeat ((first | (with_reducible apply sT); rfl | (with_reducible apply sF); rfl | (with_reducible apply sE); rfl); conv => arg 3; whnf)
  exact sat_ret ⟨rfl, rfl⟩
end Stk
end

section
/- The plain law of a ledger's epochs. -/
namespace Stk
open Go
set_option maxRecDepth 100000
set_option linter.unusedSimpArgs false
set_option linter.unusedVariables false
set_option maxHeartbeats 4000000
structure LInv (l : Lg) : Prop where
  ok : l.OK
  ph : ∀ (j : Nat) e, l.eps[j]? = some e → 1 ≤ e.phase ∧ e.phase ≤ 3 ∧ (e.phase = 1 → j + 1 = l.eps.length)
  im : ∀ e ∈ l.eps, (findI e.hash l.im).isSome = true
  hf : ∀ e ∈ l.eps, Tr.fits (.arr 32 e.hash) hSh = true
  hd : ∀ p ∈ l.im, p.2.length ≤ 2 ^ 40
/-- What epochs become. -/
structure Nxt (A B : List Ep) : Prop where
  len : A.length ≤ B.length ∧ B.length ≤ A.length + 1
  old : ∀ (j : Nat) a, A[j]? = some a → ∃ b, B[j]? = some b ∧ b.hash = a.hash ∧ (b.phase = a.phase ∨ a.phase = 1)
theorem Nxt.refl (A : List Ep) : Nxt A A := ⟨by omega, fun j a h => ⟨a, h, rfl, .inl rfl⟩⟩
/-- What a call makes of a ledger. -/
structure LStep (l l' : Lg) : Prop where
  inv : LInv l'
  nxt : Nxt l.eps l'.eps
  nodes : l'.nodes = l.nodes
theorem LStep.refl {l : Lg} (h : LInv l) : LStep l l := ⟨h, Nxt.refl _, rfl⟩
theorem LInv.same {l l' : Lg} (h : LInv l) (h1 : l'.nodes = l.nodes) (h2 : l'.im = l.im) (h3 : l'.eps = l.eps) : LInv l' := by
  obtain ⟨⟨a, b, c, d⟩, e, f, g, i⟩ := h
  exact ⟨⟨by rw [h1]; exact a, by rw [h3]; exact b, by rw [h2]; exact c, by rw [h3]; exact d⟩, by rw [h3]; exact e, by rw [h3, h2]; exact f, by rw [h3]; exact g, by rw [h2]; exact i⟩
theorem setq_same (l : Lg) (k : Int) (x : Rq) : (l.setq k x).nodes = l.nodes ∧ (l.setq k x).im = l.im ∧ (l.setq k x).eps = l.eps := by
  unfold Lg.setq
  split
  · exact ⟨rfl, rfl, rfl⟩
  · split
    · exact ⟨rfl, rfl, rfl⟩
    · split <;> exact ⟨rfl, rfl, rfl⟩
theorem LStep.setq {l l' : Lg} (h : LStep l l') (k : Int) (x : Rq) : LStep l (l'.setq k x) := by
  obtain ⟨h1, h2, h3⟩ := setq_same l' k x
  exact ⟨h.inv.same h1 h2 h3, by rw [h3]; exact h.nxt, by rw [h1]; exact h.nodes⟩
theorem LStep.once {l : Lg} (hl : LInv l) {f : Lg × Rp} (h : LStep l f.1) (c : Cm) : LStep l (l.once c f).1 := by
  unfold Lg.once
  split
  · exact LStep.refl hl
  · split
    · exact LStep.refl hl
    · split
      · exact h.setq _ _
      · exact LStep.refl hl
theorem putI_mem {h v : List Tr} : ∀ {im : List (List Tr × List Tr)} {p : List Tr × List Tr}, p ∈ putI h v im → p ∈ im ∨ p = (h, v)
  | [], p, hp => by simp [putI] at hp; exact .inr hp
  | (a, d) :: r, p, hp => by
    simp only [putI] at hp
    split at hp
    · rcases List.mem_cons.1 hp with rfl | hp
      · exact .inr rfl
      · exact .inl (by simp [hp])
    · rcases List.mem_cons.1 hp with rfl | hp
      · exact .inl (by simp)
      · rcases putI_mem hp with h | h
        · exact .inl (by simp [h])
        · exact .inr h
/-- Digests that are the same. -/
theorem eqbs_fits {s : Sh} (hs : s = .int .u8) : ∀ {a b : List Tr}, Tr.fitsa a s = true → Tr.fitsa b s = true → Tr.eqbs a b = true → a = b
  | [], [], _, _, _ => rfl
  | [], _ :: _, _, _, h => by simp [Tr.eqbs] at h
  | _ :: _, [], _, _, h => by simp [Tr.eqbs] at h
  | x :: a, y :: b, ha, hb, h => by
    simp only [Tr.fitsa, Tr.eqbs, Bool.and_eq_true] at ha hb h
    subst hs
    rw [eqbs_fits rfl ha.2 hb.2 h.2]
    have hx := ha.1; have hy := hb.1; have hxy := h.1
    cases x <;> simp [Tr.fits] at hx
    cases y <;> simp [Tr.fits] at hy
    rw [kindEq_eq hx, kindEq_eq hy]
    simp [Tr.eqb] at hxy
    rw [hxy]
theorem hash_eq {a b : List Tr} (ha : Tr.fits (.arr 32 a) hSh = true) (hb : Tr.fits (.arr 32 b) hSh = true) (h : Tr.eqbs a b = true) : a = b := by
  simp only [Tr.fits, Bool.and_eq_true] at ha hb
  exact eqbs_fits rfl ha.2 hb.2 h
theorem eqbs_self {s : Sh} (hs : s = .int .u8) : ∀ {a : List Tr}, Tr.fitsa a s = true → Tr.eqbs a a = true
  | [], _ => rfl
  | x :: a, h => by
    subst hs
    simp only [Tr.fitsa, Bool.and_eq_true] at h
    have hx := h.1
    cases x <;> simp [Tr.fits] at hx
    simp [Tr.eqbs, Tr.eqb, eqbs_self rfl h.2]
theorem findI_put {k h v : List Tr} : ∀ {im : List (List Tr × List Tr)}, (∀ p ∈ im, Tr.fits (.arr 32 p.1) hSh = true) → Tr.fits (.arr 32 h) hSh = true → (findI k im).isSome = true → (findI k (putI h v im)).isSome = true
  | [], _, _, e => by simp [findI] at e
  | (a, d) :: r, hk, hh, e => by
    simp only [putI]
    split
    · rename_i he
      have : h = a := hash_eq hh (hk (a, d) (by simp)) he
      subst this
      simp only [findI] at e ⊢
      split
      · rfl
      · rename_i hn; rw [if_neg hn] at e; exact e
    · simp only [findI] at e ⊢
      split
      · rfl
      · rename_i hn
        rw [if_neg hn] at e
        exact findI_put (fun p hp => hk p (by simp [hp])) hh e
theorem LStep.store {l : Lg} (hl : LInv l) {L : List Tr} (hb : AllB L) (hL : L.length ≤ 2 ^ 40) : LStep l (l.store L).1 := by
  unfold Lg.store
  split
  · exact LStep.refl hl
  · split
    · split <;> exact LStep.refl hl
    · split
      · exact LStep.refl hl
      · obtain ⟨⟨a, b, c, d⟩, e, f, g, i⟩ := hl
        refine ⟨⟨⟨a, b, fun p hp => ?_, d⟩, e, fun x hx => findI_put (fun p hp => (c p hp).1) (sha_fits L) (f x hx), g, fun p hp => ?_⟩, Nxt.refl _, rfl⟩
        · rcases putI_mem hp with h | rfl
          · exact c p h
          · exact ⟨sha_fits L, hb⟩
        · rcases putI_mem hp with h | rfl
          · exact i p h
          · exact hL
theorem lastE_zero {p : Int} {L : List Ep} : ∀ {n : Nat}, lastE p L n = 0 → ∀ (j : Nat) e, j < n → L[j]? = some e → e.phase ≠ p
  | 0, _, j, e, hj, _ => by omega
  | n + 1, h, j, e, hj, he => by
    simp only [lastE] at h
    cases hn : L[n]? with
    | none =>
      rw [hn] at h
      rcases Nat.lt_or_ge j n with h1 | h1
      · exact lastE_zero h j e h1 he
      · obtain rfl : j = n := by omega
        rw [hn] at he; cases he
    | some x =>
      rw [hn] at h
      simp only at h
      split at h
      · cases h
      · rename_i hx
        rcases Nat.lt_or_ge j n with h1 | h1
        · exact lastE_zero h j e h1 he
        · obtain rfl : j = n := by omega
          rw [hn] at he; obtain rfl := Option.some.inj he; exact hx
theorem LStep.propose {l : Lg} (hl : LInv l) {h : List Tr} (hh : Tr.fits (.arr 32 h) hSh = true) : LStep l (l.propose h).1 := by
  unfold Lg.propose
  split
  · exact LStep.refl hl
  · rename_i hsome
    split
    · exact LStep.refl hl
    · rename_i hpend
      split
      · exact LStep.refl hl
      · rename_i hlen
        obtain ⟨⟨a, b, c, d⟩, e, f, g, i⟩ := hl
        have hz : lastE 1 l.eps l.eps.length = 0 := by omega
        have mem : ∀ x ∈ l.eps ++ [(⟨h, 1, [false, false, false, false]⟩ : Ep)], x ∈ l.eps ∨ x = ⟨h, 1, [false, false, false, false]⟩ := fun x hx => by simpa using hx
        refine ⟨⟨⟨a, by simp; omega, c, fun x hx => ?_⟩, fun j x hj => ?_, fun x hx => ?_, fun x hx => ?_, i⟩, ⟨by simp, fun j x hj => ⟨x, by rw [List.getElem?_append_left (List.getElem?_eq_some_iff.1 hj).1]; exact hj, rfl, .inl rfl⟩⟩, rfl⟩
        · rcases mem x hx with hx | rfl
          · exact d x hx
          · rfl
        · dsimp only at hj ⊢
          rcases Nat.lt_or_ge j l.eps.length with hlt | hge
          · rw [List.getElem?_append_left hlt] at hj
            obtain ⟨h1, h2, h3⟩ := e j x hj
            refine ⟨h1, h2, fun hx => absurd hx (lastE_zero hz j x hlt hj)⟩
          · rw [List.getElem?_append_right hge] at hj
            have : j - l.eps.length = 0 := by
              rcases Nat.eq_zero_or_pos (j - l.eps.length) with h0 | h0
              · exact h0
              · rw [List.getElem?_singleton, if_neg (by omega)] at hj; cases hj
            rw [this] at hj
            obtain rfl := Option.some.inj hj
            simp; omega
        · rcases mem x hx with hx | rfl
          · exact f x hx
          · cases hf : findI h l.im with
            | none => rw [hf] at hsome; simp at hsome
            | some y => rfl
        · rcases mem x hx with hx | rfl
          · exact g x hx
          · exact hh
theorem LStep.ack {l : Lg} (hl : LInv l) (c : Cm) : LStep l (l.ack c).1 := by
  unfold Lg.ack
  split
  · exact LStep.refl hl
  · split
    · exact LStep.refl hl
    · split
      · rename_i u hu
        unfold Lg.ack1
        split
        · exact LStep.refl hl
        · rename_i hp1
          have hp1 : u.phase = 1 := by omega
          have key : ∀ x : Ep, x.hash = u.hash → 1 ≤ x.phase → x.phase ≤ 3 → x.yes.length = 4 → LStep l { l with eps := l.eps.set (c.epoch - 1).toNat x } := by
            intro x hxh hx1 hx3 hxy
            obtain ⟨⟨a, b, c', d⟩, e, f, g, i⟩ := hl
            have hum : u ∈ l.eps := List.mem_of_getElem? hu
            have mem : ∀ y ∈ l.eps.set (c.epoch - 1).toNat x, y ∈ l.eps ∨ y = x := fun y hy => List.mem_or_eq_of_mem_set hy
            refine ⟨⟨⟨a, by simpa using b, c', fun y hy => ?_⟩, fun j y hj => ?_, fun y hy => ?_, fun y hy => ?_, i⟩, ⟨by simp, fun j y hj => ?_⟩, rfl⟩
            · rcases mem y hy with hy | rfl
              · exact d y hy
              · exact hxy
            · dsimp only at hj ⊢
              rw [List.getElem?_set] at hj
              rw [List.length_set]
              split at hj
              · rename_i hjj
                subst hjj
                split at hj
                · obtain rfl := Option.some.inj hj
                  exact ⟨hx1, hx3, fun _ => (e _ u hu).2.2 hp1⟩
                · cases hj
              · exact e j y hj
            · rcases mem y hy with hy | rfl
              · exact f y hy
              · rw [hxh]; exact f u hum
            · rcases mem y hy with hy | rfl
              · exact g y hy
              · rw [hxh]; exact g u hum
            · dsimp only
              by_cases hjj : (c.epoch - 1).toNat = j
              · subst hjj
                rw [hu] at hj
                obtain rfl := Option.some.inj hj
                exact ⟨x, by rw [List.getElem?_set_self (List.getElem?_eq_some_iff.1 hu).1], hxh, .inr hp1⟩
              · exact ⟨y, by rw [List.getElem?_set_ne hjj]; exact hj, rfl, .inl rfl⟩
          have huy := hl.ok.hy u (List.mem_of_getElem? hu)
          split
          · exact key ⟨u.hash, 3, u.yes⟩ rfl (show (1 : Int) ≤ 3 by decide) (show (3 : Int) ≤ 3 by decide) huy
          · refine key _ rfl ?_ ?_ (by simpa using huy)
            · dsimp only; split <;> decide
            · dsimp only; split <;> decide
      · exact LStep.refl hl
theorem LStep.apply {l : Lg} (hl : LInv l) {c : Cm} (hc : c.OK) : LStep l (l.apply c).1 := by
  unfold Lg.apply
  split
  · exact LStep.refl hl
  · split
    · exact LStep.once hl (LStep.store hl hc.hb hc.hl) c
    · split
      · exact LStep.once hl (LStep.propose hl hc.hh) c
      · split
        · exact LStep.ack hl c
        · exact LStep.refl hl
theorem LInv.new {n : Int} (h : 1 ≤ n ∧ n ≤ 4) : LInv (Lg.new n) :=
  ⟨⟨⟨by show 0 < n; omega, h.2⟩, by simp [Lg.new], fun p hp => by simp [Lg.new] at hp, fun e he => by simp [Lg.new] at he⟩, fun j e he => by simp [Lg.new] at he, fun e he => by simp [Lg.new] at he, fun e he => by simp [Lg.new] at he, fun p hp => by simp [Lg.new] at hp⟩
/-- The pending epoch is the last one, or there is none. -/
theorem LInv.pending {l : Lg} (hl : LInv l) : lastE 1 l.eps l.eps.length = (match l.eps[l.eps.length - 1]? with
    | some e => if e.phase = 1 then l.eps.length else 0
    | none => 0) := by
  cases hn : l.eps.length with
  | zero =>
    have : l.eps = [] := List.length_eq_zero_iff.1 hn
    rw [this]; rfl
  | succ n =>
    have hu : l.eps[n]? = some l.eps[n] := List.getElem?_eq_getElem (by omega)
    rw [Nat.add_sub_cancel, hu]
    simp only [lastE, hu]
    split
    · rfl
    · have : ∀ m, m ≤ n → lastE 1 l.eps m = 0 := by
        intro m
        induction m with
        | zero => intro _; rfl
        | succ m ih =>
          intro hm
          have hv : l.eps[m]? = some l.eps[m] := List.getElem?_eq_getElem (by omega)
          simp only [lastE, hv]
          rw [if_neg (fun h1 => by have := (hl.ph m _ hv).2.2 h1; omega)]
          exact ih (by omega)
      exact this n (Nat.le_refl _)
end Stk
end

section
/- The plain law of the barrier: who said yes to which epoch while it was pending. -/
namespace Stk
open Go
set_option maxRecDepth 100000
set_option linter.unusedSimpArgs false
set_option linter.unusedVariables false
set_option maxHeartbeats 4000000
abbrev kT (ks : List Int) : List (Tr × Tr) := ks.map fun k => (.int .i64 k, .bool true)
def addK (k : Int) (ks : List Int) : List Int := if k ∈ ks then ks else ks ++ [k]
theorem addK_cons (k x : Int) (r : List Int) : addK k (x :: r) = if k = x then x :: r else x :: addK k r := by
  unfold addK
  by_cases h : k = x
  · subst h; simp
  · simp only [List.mem_cons, h, false_or, if_false]
    split <;> rfl
theorem mput_kT (k : Int) : ∀ ks : List Int, mput (.int .i64 k) (.bool true) (kT ks) = kT (addK k ks)
  | [] => rfl
  | x :: r => by
    have e : mput (.int .i64 k) (.bool true) (kT (x :: r)) = if Tr.eqb (.int .i64 k) (.int .i64 x) then (.int .i64 k, .bool true) :: kT r else (.int .i64 x, .bool true) :: mput (.int .i64 k) (.bool true) (kT r) := rfl
    rw [e, mput_kT k r, addK_cons]
    by_cases h : k = x
    · subst h; simp [Tr.eqb]
    · simp [Tr.eqb, h]
theorem mfind_kT (k : Int) : ∀ ks : List Int, mfind (.int .i64 k) (kT ks) = if k ∈ ks then some (.bool true) else none
  | [] => rfl
  | x :: r => by
    have e : mfind (.int .i64 k) (kT (x :: r)) = if Tr.eqb (.int .i64 k) (.int .i64 x) then some (.bool true) else mfind (.int .i64 k) (kT r) := rfl
    rw [e, mfind_kT k r]
    by_cases h : k = x
    · subst h; simp [Tr.eqb]
    · simp [Tr.eqb, h]
/-- An epoch, who said yes, and whether one said no. -/
structure BE (nodes : Int) (e : Ep) (ks : List Int) (b : Bool) : Prop where
  mem : ∀ n : Nat, n < 4 → (e.yes[n]? = some true ↔ ((n : Int) + 1) ∈ ks)
  cnt : ks.length = ((e.yes.take nodes.toNat).filter id).length
  ins : ∀ k ∈ ks, 1 ≤ k ∧ k ≤ nodes
  ph3 : b = true → e.phase = 3 ∧ (ks.length : Int) ≠ nodes
  ph2 : b = false → e.phase = if (ks.length : Int) = nodes then 2 else 1
structure QOK (l : Lg) : Prop where
  q1 : l.q1.r.epoch ≤ l.eps.length
  q2 : l.q2.r.epoch ≤ l.eps.length
  q3 : l.q3.r.epoch ≤ l.eps.length
  q4 : l.q4.r.epoch ≤ l.eps.length
structure BInv (l : Lg) (ys : List (List Int)) (no : List Bool) : Prop where
  inv : LInv l
  ly : ys.length = l.eps.length
  ln : no.length = l.eps.length
  qs : QOK l
  each : ∀ (j : Nat) e ks b, l.eps[j]? = some e → ys[j]? = some ks → no[j]? = some b → BE l.nodes e ks b
theorem QOK.q {l : Lg} (h : QOK l) (k : Int) : (l.q k).r.epoch ≤ l.eps.length := by
  unfold Lg.q
  split
  · exact h.q1
  · split
    · exact h.q2
    · split
      · exact h.q3
      · exact h.q4
theorem QOK.setq {l : Lg} (h : QOK l) {x : Rq} (hx : x.r.epoch ≤ l.eps.length) (k : Int) : QOK (l.setq k x) := by
  obtain ⟨h1, h2, h3, h4⟩ := h
  unfold Lg.setq
  split
  · exact ⟨hx, h2, h3, h4⟩
  · split
    · exact ⟨h1, hx, h3, h4⟩
    · split
      · exact ⟨h1, h2, hx, h4⟩
      · exact ⟨h1, h2, h3, hx⟩
/-- What a call that is no node's word makes of the epochs. -/
def Made (l : Lg) (C : Cm) (R : Lg × Rp) : Prop := R.1.nodes = l.nodes ∧ QOK R.1 ∧ R.2.epoch ≤ R.1.eps.length ∧
  ((C.kind = 2 ∧ R.2.code = 0 ∧ R.2.epoch = l.eps.length + 1 ∧ ∃ h, R.1.eps = l.eps ++ [⟨h, 1, [false, false, false, false]⟩]) ∨ (R.1.eps = l.eps ∧ ¬(C.kind = 2 ∧ R.2.code = 0 ∧ R.2.epoch = l.eps.length + 1)))
theorem Made.same {l : Lg} (hq : QOK l) (C : Cm) {r : Rp} (h : r.epoch ≤ l.eps.length) : Made l C (l, r) :=
  ⟨rfl, hq, h, .inr ⟨rfl, fun h2 => by have h3 : r.epoch = l.eps.length + 1 := h2.2.2; omega⟩⟩
theorem Made.once {l : Lg} (hq : QOK l) {C : Cm} {F : Lg × Rp} (h : Made l C F) : Made l C (l.once C F) := by
  unfold Lg.once
  split
  · exact Made.same hq C (by show (0 : Int) ≤ _; omega)
  · split
    · exact Made.same hq C (by show (0 : Int) ≤ _; omega)
    · split
      · obtain ⟨h1, h2, h3, h4⟩ := h
        obtain ⟨e1, e2, e3⟩ := setq_same F.1 C.client ⟨C.seq, F.2⟩
        refine ⟨by rw [e1]; exact h1, h2.setq h3 _, by rw [e3]; exact h3, ?_⟩
        rw [e3]; exact h4
      · exact Made.same hq C (hq.q _)
theorem Made.propose {l : Lg} (hq : QOK l) {C : Cm} (hk : C.kind = 2) : Made l C (l.propose C.hash) := by
  unfold Lg.propose
  split
  · exact Made.same hq C (by show (0 : Int) ≤ _; omega)
  · split
    · exact Made.same hq C (by show (0 : Int) ≤ _; omega)
    · split
      · exact Made.same hq C (by show (0 : Int) ≤ _; omega)
      · obtain ⟨h1, h2, h3, h4⟩ := hq
        refine ⟨rfl, ⟨?_, ?_, ?_, ?_⟩, ?_, .inl ⟨hk, rfl, ?_, _, rfl⟩⟩ <;> simp <;> omega
theorem Made.store {l : Lg} (hq : QOK l) {C : Cm} (hk : C.kind = 1) (L : List Tr) : Made l C (l.store L) := by
  unfold Lg.store
  split
  · exact Made.same hq C (by show (0 : Int) ≤ _; omega)
  · split
    · split <;> exact Made.same hq C (by show (0 : Int) ≤ _; omega)
    · split
      · exact Made.same hq C (by show (0 : Int) ≤ _; omega)
      · obtain ⟨h1, h2, h3, h4⟩ := hq
        exact ⟨rfl, ⟨h1, h2, h3, h4⟩, by show (0 : Int) ≤ _; omega, .inr ⟨rfl, fun h => by have := h.1; omega⟩⟩
theorem Made.apply {l : Lg} (hq : QOK l) {C : Cm} (hk : C.kind ≠ 3) : Made l C (l.apply C) := by
  unfold Lg.apply
  rw [if_neg hk]
  split
  · exact Made.same hq C (by show (0 : Int) ≤ _; omega)
  · split
    · rename_i h1
      exact (Made.store hq h1 _).once hq
    · split
      · rename_i h1
        exact (Made.propose hq h1).once hq
      · exact Made.same hq C (by show (0 : Int) ≤ _; omega)
/-- When the program notes a new epoch. -/
abbrev IsNew (C : Cm) (R : Rp) (n : Nat) : Prop := C.kind = 2 ∧ R.code = 0 ∧ R.epoch = n + 1
/-- When the program notes a node's word. -/
abbrev IsAck (C : Cm) (nodes : Int) (before n : Nat) : Prop := C.kind = 3 ∧ 1 ≤ C.node ∧ C.node ≤ nodes ∧ C.epoch = before ∧ 0 < before ∧ before ≤ n
theorem BInv.grown {l : Lg} {ys no} (h : BInv l ys no) {C : Cm} (hc : C.OK) (hn : IsNew C (l.apply C).2 ys.length) : BInv (l.apply C).1 (ys ++ [[]]) (no ++ [false]) := by
  have hs := (LStep.apply h.inv hc).inv
  obtain ⟨m1, m2, m3, m4⟩ := Made.apply h.qs (C := C) (by have := hn.1; omega)
  rw [IsNew, h.ly] at hn
  have hno := h.inv.ok.hn
  have hly := h.ly
  have hln := h.ln
  rcases m4 with ⟨_, _, _, hh, he⟩ | ⟨_, hx⟩
  · refine ⟨hs, by rw [he]; simp [h.ly], by rw [he]; simp [h.ln], m2, fun j e ks b h1 h2 h3 => ?_⟩
    rw [m1]
    rw [he] at h1
    rcases Nat.lt_or_ge j l.eps.length with hj | hj
    · rw [List.getElem?_append_left hj] at h1
      rw [List.getElem?_append_left (by omega)] at h2 h3
      exact h.each j e ks b h1 h2 h3
    · rw [List.getElem?_append_right hj] at h1
      rw [List.getElem?_append_right (by omega)] at h2 h3
      have hj1 : j - l.eps.length = 0 := by
        rcases Nat.eq_zero_or_pos (j - l.eps.length) with h0 | h0
        · exact h0
        · rw [List.getElem?_singleton, if_neg (by omega)] at h1; cases h1
      rw [hj1] at h1
      rw [h.ly, hj1] at h2
      rw [h.ln, hj1] at h3
      obtain rfl := Option.some.inj h1
      obtain rfl := Option.some.inj h2
      obtain rfl := Option.some.inj h3
      have hn4 : l.nodes.toNat = 1 ∨ l.nodes.toNat = 2 ∨ l.nodes.toNat = 3 ∨ l.nodes.toNat = 4 := by omega
      refine ⟨fun n hn => ?_, ?_, fun k hk => by simp at hk, fun hb => by simp at hb, fun _ => ?_⟩
      · have : n = 0 ∨ n = 1 ∨ n = 2 ∨ n = 3 := by omega
        rcases this with rfl | rfl | rfl | rfl <;> simp
      · rcases hn4 with h4 | h4 | h4 | h4 <;> rw [h4] <;> rfl
      · rw [if_neg (by simp; omega)]
  · exact absurd hn hx
theorem BInv.quiet {l : Lg} {ys no} (h : BInv l ys no) {C : Cm} (hc : C.OK) (hn : ¬ IsNew C (l.apply C).2 ys.length) (ha : ¬ IsAck C l.nodes (lastE 1 l.eps l.eps.length) ys.length) : BInv (l.apply C).1 ys no := by
  by_cases hk : C.kind = 3
  · have e : l.apply C = l.ack C := by unfold Lg.apply; simp [hk]
    rw [e]
    have same : (l.ack C).1 = l → BInv (l.ack C).1 ys no := fun e => by rw [e]; exact h
    apply same
    unfold Lg.ack
    split
    · rfl
    · split
      · rfl
      · rename_i n1 n2
        split
        · rename_i u hu
          unfold Lg.ack1
          split
          · rfl
          · rename_i hp
            exfalso
            apply ha
            have hp : u.phase = 1 := by omega
            have hl := (h.inv.ph _ u hu).2.2 hp
            have hpd := h.inv.pending
            rw [show l.eps.length - 1 = (C.epoch - 1).toNat by omega, hu] at hpd
            simp only [hp, if_true] at hpd
            have hly := h.ly
            refine ⟨hk, by omega, by omega, by rw [hpd]; omega, by rw [hpd]; omega, by rw [hpd]; omega⟩
        · rfl
  · have hs := (LStep.apply h.inv hc).inv
    obtain ⟨m1, m2, m3, m4⟩ := Made.apply h.qs hk
    rw [IsNew, h.ly] at hn
    rcases m4 with ⟨a, b, c, _, _⟩ | ⟨he, _⟩
    · exact absurd ⟨a, b, c⟩ hn
    · exact ⟨hs, by rw [he]; exact h.ly, by rw [he]; exact h.ln, m2, by rw [he, m1]; exact h.each⟩
/-- A node's word to the pending epoch: what becomes of it. -/
theorem ack_eq {l : Lg} {ys no} (h : BInv l ys no) {C : Cm} (ha : IsAck C l.nodes (lastE 1 l.eps l.eps.length) ys.length) :
    ∃ e, l.eps[l.eps.length - 1]? = some e ∧ e.phase = 1 ∧ lastE 1 l.eps l.eps.length = l.eps.length ∧ 0 < l.eps.length ∧ (C.epoch - 1).toNat = l.eps.length - 1 ∧ l.apply C = l.ack1 C e := by
  obtain ⟨a1, a2, a3, a4, a5, a6⟩ := ha
  have hpd := h.inv.pending
  cases hu : l.eps[l.eps.length - 1]? with
  | none => rw [hu] at hpd; simp only at hpd; omega
  | some e =>
    rw [hu] at hpd
    simp only at hpd
    split at hpd
    · rename_i hp
      have hi : (C.epoch - 1).toNat = l.eps.length - 1 := by omega
      refine ⟨e, rfl, hp, hpd, by omega, hi, ?_⟩
      unfold Lg.apply Lg.ack
      rw [if_neg (by omega), if_neg (by omega), if_neg (by omega), if_pos a1, if_neg (by omega), if_neg (by omega), hi, hu]
    · omega
theorem ack_new {l : Lg} {ys no} (h : BInv l ys no) {C : Cm} (hc : C.OK) (ha : IsAck C l.nodes (lastE 1 l.eps l.eps.length) ys.length) (ks2 : List Int) (b2 : Bool) (x : Ep) (rp : Rp)
    (hA : (l.apply C) = ({ l with eps := l.eps.set (l.eps.length - 1) x }, rp))
    (hB : ∀ e ks b, l.eps[l.eps.length - 1]? = some e → e.phase = 1 → ys[l.eps.length - 1]? = some ks → no[l.eps.length - 1]? = some b → BE l.nodes e ks b → BE l.nodes x ks2 b2)
    (ys2 : List (List Int)) (no2 : List Bool) (hy2 : ys2 = ys.set (l.eps.length - 1) ks2) (hn2 : no2 = no.set (l.eps.length - 1) b2) : BInv (l.apply C).1 ys2 no2 := by
  have hs := (LStep.apply h.inv hc).inv
  obtain ⟨u, hu, hp, hb, h0, hi, he⟩ := ack_eq h ha
  rw [hA] at hs ⊢
  have hly := h.ly
  have hln := h.ln
  subst hy2 hn2
  refine ⟨hs, by simp [hly], by simp [hln], ?_, fun j e ks b h1 h2 h3 => ?_⟩
  · obtain ⟨a, b, c, d⟩ := h.qs
    exact ⟨by simpa using a, by simpa using b, by simpa using c, by simpa using d⟩
  · dsimp only at h1 ⊢
    by_cases hj : l.eps.length - 1 = j
    · subst hj
      rw [List.getElem?_set_self (by omega)] at h1 h2 h3
      obtain rfl := Option.some.inj h1
      obtain rfl := Option.some.inj h2
      obtain rfl := Option.some.inj h3
      have hy := List.getElem?_eq_getElem (l := ys) (i := l.eps.length - 1) (by omega)
      have hn := List.getElem?_eq_getElem (l := no) (i := l.eps.length - 1) (by omega)
      exact hB u _ _ hu hp hy hn (h.each _ u _ _ hu hy hn)
    · rw [List.getElem?_set_ne hj] at h1 h2 h3
      exact h.each j e ks b h1 h2 h3
theorem set_self {α : Type} {l : List α} {i : Nat} {x : α} (h : l[i]? = some x) : l.set i x = l := by
  apply List.ext_getElem?
  intro j
  rw [List.getElem?_set]
  split
  · rename_i hij
    subst hij
    rw [h, if_pos (List.getElem?_eq_some_iff.1 h).1]
  · rfl
theorem BE.no {nodes : Int} {e : Ep} {ks : List Int} {b : Bool} (h : BE nodes e ks b) (hp : e.phase = 1) : BE nodes { e with phase := 3 } ks true := by
  refine ⟨h.mem, h.cnt, h.ins, fun _ => ⟨rfl, fun hk => ?_⟩, fun hb => by simp at hb⟩
  cases b with
  | true => have := (h.ph3 rfl).1; omega
  | false =>
    have := h.ph2 rfl
    rw [if_pos hk] at this
    rw [this] at hp
    cases hp
theorem four {L : List Bool} (h : L.length = 4) : ∃ a b c d, L = [a, b, c, d] := by
  match L, h with
  | [a, b, c, d], _ => exact ⟨a, b, c, d, rfl⟩
theorem yes_cnt (a b c d : Bool) (n m : Nat) (hn : n = 1 ∨ n = 2 ∨ n = 3 ∨ n = 4) (hm : m < n) :
    ((([a, b, c, d].set m true).take n).filter id).length = (([a, b, c, d].take n).filter id).length + (if [a, b, c, d][m]? = some true then 0 else 1) ∧
    ((([a, b, c, d].take n).all id = true) ↔ (([a, b, c, d].take n).filter id).length = n) := by
  have hm4 : m = 0 ∨ m = 1 ∨ m = 2 ∨ m = 3 := by omega
  rcases hn with rfl | rfl | rfl | rfl <;> rcases hm4 with rfl | rfl | rfl | rfl <;> first | omega | (cases a <;> cases b <;> cases c <;> cases d <;> decide)
theorem BE.yes {nodes : Int} (hn : 1 ≤ nodes ∧ nodes ≤ 4) {e : Ep} (hy : e.yes.length = 4) {ks : List Int} {b : Bool} (h : BE nodes e ks b) (hp : e.phase = 1) {k : Int} (hk : 1 ≤ k ∧ k ≤ nodes) :
    BE nodes ⟨e.hash, if ((e.yes.set (k - 1).toNat true).take nodes.toNat).all id then 2 else 1, e.yes.set (k - 1).toNat true⟩ (addK k ks) b := by
  obtain ⟨hash, phase, yes⟩ := e
  obtain ⟨y1, y2, y3, y4, rfl⟩ := four hy
  obtain ⟨m, hm⟩ : ∃ m : Nat, k = (m : Int) + 1 := ⟨(k - 1).toNat, by omega⟩
  have hkm : (k - 1).toNat = m := by omega
  rw [hkm]
  have hm4 : m < 4 := by omega
  have hnn : nodes.toNat = 1 ∨ nodes.toNat = 2 ∨ nodes.toNat = 3 ∨ nodes.toNat = 4 := by omega
  have c1 := (yes_cnt y1 y2 y3 y4 nodes.toNat m hnn (by omega)).1
  have hmem := h.mem m hm4
  rw [← hm] at hmem
  dsimp only at hmem hp
  have hcnt := h.cnt
  dsimp only at hcnt
  have hcn : (addK k ks).length = ((([y1, y2, y3, y4].set m true).take nodes.toNat).filter id).length := by
    rw [c1, ← hcnt]
    unfold addK
    by_cases hin : k ∈ ks
    · rw [if_pos hin, if_pos (hmem.2 hin)]; rfl
    · rw [if_neg hin, if_neg (fun h => hin (hmem.1 h))]; simp
  have c2 : ((([y1, y2, y3, y4].set m true).take nodes.toNat).all id = true) ↔ ((([y1, y2, y3, y4].set m true).take nodes.toNat).filter id).length = nodes.toNat := by
    obtain ⟨z1, z2, z3, z4, hz⟩ := four (L := [y1, y2, y3, y4].set m true) (by simp)
    rw [hz]
    exact (yes_cnt z1 z2 z3 z4 nodes.toNat m hnn (by omega)).2
  refine ⟨fun n hn4 => ?_, hcn, fun j hj => ?_, fun hb => ?_, fun hb => ?_⟩
  · have hm2 := h.mem n hn4
    dsimp only at hm2 ⊢
    unfold addK
    by_cases hnm : m = n
    · subst hnm
      rw [List.getElem?_set_self (by simpa using hn4)]
      refine ⟨fun _ => ?_, fun _ => rfl⟩
      split
      · rename_i hin; rw [← hm]; exact hin
      · rw [← hm]; simp
    · rw [List.getElem?_set_ne hnm, hm2]
      split
      · exact Iff.rfl
      · simp only [List.mem_append, List.mem_singleton]
        exact ⟨fun h => .inl h, fun h => h.resolve_right (by omega)⟩
  · unfold addK at hj
    split at hj
    · exact h.ins j hj
    · rcases List.mem_append.1 hj with hj | hj
      · exact h.ins j hj
      · rw [List.mem_singleton] at hj; omega
  · exact absurd hp (by have := (h.ph3 hb).1; dsimp only at this; omega)
  · dsimp only
    by_cases hall : (([y1, y2, y3, y4].set m true).take nodes.toNat).all id = true
    · have := c2.1 hall
      rw [if_pos hall, if_pos (by omega)]
    · have := mt c2.2 hall
      rw [if_neg hall, if_neg (by omega)]
theorem BInv.no {l : Lg} {ys no} (h : BInv l ys no) {C : Cm} (hc : C.OK) (ha : IsAck C l.nodes (lastE 1 l.eps l.eps.length) ys.length) (hy : C.yes = false) :
    lastE 1 l.eps l.eps.length = l.eps.length ∧ BInv (l.apply C).1 ys (no.set (l.eps.length - 1) true) := by
  obtain ⟨u, hu, hp, hb, h0, hi, he⟩ := ack_eq h ha
  refine ⟨hb, ?_⟩
  have hys := List.getElem?_eq_getElem (l := ys) (i := l.eps.length - 1) (by have := h.ly; omega)
  refine ack_new h hc ha (ys[l.eps.length - 1]'(by have := h.ly; omega)) true { u with phase := 3 } _ (by rw [he]; unfold Lg.ack1; rw [if_neg (by omega), if_pos hy, hi]) (fun e ks b h1 h2 h3 h4 h5 => ?_) _ _ (set_self hys).symm rfl
  rw [hu] at h1
  obtain rfl := Option.some.inj h1
  rw [hys] at h3
  obtain rfl := Option.some.inj h3
  exact h5.no h2
theorem BInv.yes {l : Lg} {ys no} (h : BInv l ys no) {C : Cm} (hc : C.OK) (ha : IsAck C l.nodes (lastE 1 l.eps l.eps.length) ys.length) (hy : C.yes = true) {ks : List Int} (hks : ys[l.eps.length - 1]? = some ks) :
    lastE 1 l.eps l.eps.length = l.eps.length ∧ BInv (l.apply C).1 (ys.set (l.eps.length - 1) (addK C.node ks)) no := by
  obtain ⟨u, hu, hp, hb, h0, hi, he⟩ := ack_eq h ha
  refine ⟨hb, ?_⟩
  have hno := List.getElem?_eq_getElem (l := no) (i := l.eps.length - 1) (by have := h.ln; omega)
  refine ack_new h hc ha (addK C.node ks) (no[l.eps.length - 1]'(by have := h.ln; omega)) _ _ (by rw [he]; unfold Lg.ack1; rw [if_neg (by omega), if_neg (by simp [hy]), hi]) (fun e ks' b h1 h2 h3 h4 h5 => ?_) _ _ rfl (set_self hno).symm
  rw [hu] at h1
  obtain rfl := Option.some.inj h1
  rw [hks] at h3
  obtain rfl := Option.some.inj h3
  rw [hno] at h4
  obtain rfl := Option.some.inj h4
  have := h.inv.ok.hn
  exact h5.yes ⟨by omega, this.2⟩ (h.inv.ok.hy u (List.mem_of_getElem? hu)) h2 ⟨ha.2.1, ha.2.2.1⟩
theorem BInv.new {n : Int} (h : 1 ≤ n ∧ n ≤ 4) : BInv (Lg.new n) [] [] :=
  ⟨LInv.new h, rfl, rfl, ⟨by simp [Lg.new], by simp [Lg.new], by simp [Lg.new], by simp [Lg.new]⟩, fun j e ks b h1 => by simp [Lg.new] at h1⟩
end Stk
end
