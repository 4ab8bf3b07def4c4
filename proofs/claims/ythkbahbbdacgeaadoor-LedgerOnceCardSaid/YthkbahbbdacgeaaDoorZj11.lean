/- Several texts of this claim, joined into one file. -/
import Derived.Test.YthkbahbbdacgeaaDoorZD4
section
/- The ledger as data; what its small functions tell. -/
namespace Stk
open Go
set_option maxRecDepth 100000
set_option linter.unusedSimpArgs false
set_option linter.unusedVariables false
set_option maxHeartbeats 4000000
abbrev i6 (n : Int) : Tr := .int .i64 n
/-- An epoch. -/
structure Ep where
  hash : List Tr
  phase : Int
  yes : List Bool
abbrev Ep.t (x : Ep) : Tr := .agg [.arr 32 x.hash, i6 x.phase, .arr 4 (x.yes.map .bool)]
/-- A reply. -/
structure Rp where
  code : Int
  epoch : Int
  hash : List Tr
abbrev Rp.t (x : Rp) : Tr := .agg [i6 x.code, i6 x.epoch, .arr 32 x.hash]
abbrev Rp.a (x : Rp) : AV := .t x.t
/-- A client's last request. -/
structure Rq where
  seq : Int
  r : Rp
abbrev Rq.t (x : Rq) : Tr := .agg [i6 x.seq, x.r.t]
/-- The images as they lie in the map. -/
def imT (im : List (List Tr × List Tr)) : List (Tr × Tr) := im.map fun p => (.arr 32 p.1, .sl false 1 p.2)
structure Lg where
  nodes : Int
  im : List (List Tr × List Tr)
  eps : List Ep
  q1 : Rq
  q2 : Rq
  q3 : Rq
  q4 : Rq
abbrev Lg.v (l : Lg) (b : Nat) : AV := .agg [ti l.nodes, .mp 1, .sl b 0 [] 0 l.eps.length none, .t (.agg [l.q1.t, l.q2.t, l.q3.t, l.q4.t])]
abbrev Lg.H (l : Lg) : Hp := [.var (l.v 2), .map (imT l.im), .row 37 (l.eps.map Ep.t)]
/-- As a call leaves it. -/
abbrev Lg.D (l : Lg) : Hp := [.var (l.v 3), .map (imT l.im), .gone, .row 37 (l.eps.map Ep.t)]
theorem k_made (l : Lg) (hn : 0 < l.nodes) : ACalls PP GG F.ledger_Ledger_made [pt 0] l.H fun r H' => r = tb true ∧ H' = l.H := by
  obtain ⟨nodes, im, eps, q1, q2, q3, q4⟩ := l
  dsimp only [Lg.H, Lg.v] at *
  refine K.ledger_Ledger_made.callsQ rfl ?_
  (conv => arg 3; whnf); repeat ((first | (with_reducible apply sT); rfl | (with_reducible apply sF); rfl | (with_reducible apply sE); rfl); conv => arg 3; whnf)
  exact sat_ret ⟨by rw [show decide (nodes > 0) = true from decide_eq_true hn], rfl⟩
/-- The last epoch of a phase, among the first n. -/
def lastE (p : Int) (L : List Ep) : Nat → Nat
  | 0 => 0
  | n + 1 => match L[n]? with
    | some e => if e.phase = p then n + 1 else lastE p L n
    | none => lastE p L n
theorem k_last (l : Lg) (p : Int) (hn : 0 < l.nodes) (hl : l.eps.length ≤ 2 ^ 60) : ACalls PP GG F.ledger_Ledger_last [pt 0, ti p] l.H fun r H' => r = ti (lastE p l.eps l.eps.length) ∧ H' = l.D := by
  have km := k_made l hn
  obtain ⟨nodes, im, eps, q1, q2, q3, q4⟩ := l
  dsimp only [Lg.H, Lg.D, Lg.v] at *
  refine K.ledger_Ledger_last.callsC rfl ?_
  (conv => arg 3; whnf); repeat ((first | (with_reducible apply sT); rfl | (with_reducible apply sF); rfl | (with_reducible apply sE); rfl); conv => arg 3; whnf)
  refine sat_call km ?_
  rintro r H' ⟨rfl, rfl⟩
  (conv => arg 3; whnf); repeat ((first | (with_reducible apply sT); rfl | (with_reducible apply sF); rfl | (with_reducible apply sE); rfl); conv => arg 3; whnf)
  refine sat_loopOf mkX_ops (σ := { i : Nat // i ≤ eps.length ∧ lastE p eps i = lastE p eps eps.length }) (fun x => [(0, pt 0), (1, ti p), (5, ti x.1)]) (fun _ => Lg.H ⟨nodes, im, eps, q1, q2, q3, q4⟩) (fun x => x.1)
    (fun ex fr' H' => (ex = .ret ∧ fr' = [(4, ti (lastE p eps eps.length))] ∧ H' = Lg.H ⟨nodes, im, eps, q1, q2, q3, q4⟩) ∨ (ex = .exit 0 ∧ fr' = [(4, .undef)] ∧ H' = Lg.H ⟨nodes, im, eps, q1, q2, q3, q4⟩ ∧ lastE p eps eps.length = 0)) ⟨eps.length, Nat.le_refl _, rfl⟩ ?_ ?_
  · rintro ⟨i, hi, he⟩
    dsimp only [Lg.H, Lg.v]
    (conv => arg 3; whnf); repeat ((first | (with_reducible apply sT); rfl | (with_reducible apply sF); rfl | (with_reducible apply sE); rfl); conv => arg 3; whnf)
    refine sat_br (fun h => ?_) (fun h => ?_)
    · have h : 0 < i := by have := of_decide_eq_true h; omega
      dsimp only
      obtain ⟨j, rfl⟩ : ∃ j, i = j + 1 := ⟨i - 1, by omega⟩
      have hu : eps[j]? = some eps[j] := List.getElem?_eq_getElem (by omega)
      generalize eps[j] = u at hu
      (conv => arg 3; whnf); repeat ((first | (with_reducible apply sT); rfl | (with_reducible apply sF); rfl | (with_reducible apply sE); rfl); conv => arg 3; whnf)
      refine sat_rng (wrap64 (by omega) (by omega)) ?_
      (conv => arg 3; whnf); repeat ((first | (with_reducible apply sT); rfl | (with_reducible apply sF); rfl | (with_reducible apply sE); rfl); conv => arg 3; whnf)
      refine sat_asrt (decide_eq_true (by omega)) ?_
      (conv => arg 3; whnf); repeat ((first | (with_reducible apply sT); rfl | (with_reducible apply sF); rfl | (with_reducible apply sE); rfl); conv => arg 3; whnf)
      refine sat_idx u.t (by omega) (by rw [Int.toNat_natCast, show 0 + (((j + 1 : Nat) : Int) - 1).toNat = j by omega, List.getElem?_map, hu]; rfl) ?_
      (conv => arg 3; whnf); repeat ((first | (with_reducible apply sT); rfl | (with_reducible apply sF); rfl | (with_reducible apply sE); rfl); conv => arg 3; whnf)
      refine sat_br (fun h2 => ?_) (fun h2 => ?_)
      · have h2 : u.phase = p := by simpa using h2
        (conv => arg 3; whnf); repeat ((first | (with_reducible apply sT); rfl | (with_reducible apply sF); rfl | (with_reducible apply sE); rfl); conv => arg 3; whnf)
        refine sat_ret (.inl ⟨rfl, ?_, rfl⟩)
        rw [← he]
        simp only [lastE, hu, if_pos h2]
        rfl
      · have h2 : ¬ u.phase = p := by simpa using h2
        (conv => arg 3; whnf); repeat ((first | (with_reducible apply sT); rfl | (with_reducible apply sF); rfl | (with_reducible apply sE); rfl); conv => arg 3; whnf)
        refine sat_rng (wrap64 (by omega) (by omega)) ?_
        (conv => arg 3; whnf); repeat ((first | (with_reducible apply sT); rfl | (with_reducible apply sF); rfl | (with_reducible apply sE); rfl); conv => arg 3; whnf)
        refine sat_ret ⟨⟨j, by omega, ?_⟩, ?_, rfl, by show j < j + 1; omega⟩
        · rw [← he]; simp only [lastE, hu, if_neg h2]
        · rw [show (((j + 1 : Nat) : Int) - 1) = (j : Int) by omega]; rfl
    · have h : i = 0 := by have := of_decide_eq_false h; omega
      subst h
      (conv => arg 3; whnf); repeat ((first | (with_reducible apply sT); rfl | (with_reducible apply sF); rfl | (with_reducible apply sE); rfl); conv => arg 3; whnf)
      exact sat_ret (.inr ⟨rfl, rfl, rfl, he.symm⟩)
  · rintro ex fr' H' (⟨rfl, rfl, rfl⟩ | ⟨rfl, rfl, rfl, h0⟩)
    · (conv => arg 3; whnf); repeat ((first | (with_reducible apply sT); rfl | (with_reducible apply sF); rfl | (with_reducible apply sE); rfl); conv => arg 3; whnf)
      exact sat_ret ⟨rfl, rfl⟩
    · (conv => arg 3; whnf); repeat ((first | (with_reducible apply sT); rfl | (with_reducible apply sF); rfl | (with_reducible apply sE); rfl); conv => arg 3; whnf)
      refine sat_ret ⟨?_, rfl⟩
      show ti 0 = ti ((lastE p eps eps.length : Nat) : Int)
      rw [h0]; rfl
theorem k_pending (l : Lg) (hn : 0 < l.nodes) (hl : l.eps.length ≤ 2 ^ 60) : ACalls PP GG F.ledger_Ledger_Pending [pt 0] l.H fun r H' => r = ti (lastE 1 l.eps l.eps.length) ∧ H' = l.D := by
  have km := k_last l 1 hn hl
  obtain ⟨nodes, im, eps, q1, q2, q3, q4⟩ := l
  dsimp only [Lg.H, Lg.D, Lg.v] at *
  refine K.ledger_Ledger_Pending.callsC rfl ?_
  (conv => arg 3; whnf); repeat ((first | (with_reducible apply sT); rfl | (with_reducible apply sF); rfl | (with_reducible apply sE); rfl); conv => arg 3; whnf)
  refine sat_call km ?_
  rintro r H' ⟨rfl, rfl⟩
  (conv => arg 3; whnf); repeat ((first | (with_reducible apply sT); rfl | (with_reducible apply sF); rfl | (with_reducible apply sE); rfl); conv => arg 3; whnf)
  exact sat_ret ⟨rfl, rfl⟩
theorem k_active (l : Lg) (hn : 0 < l.nodes) (hl : l.eps.length ≤ 2 ^ 60) : ACalls PP GG F.ledger_Ledger_Active [pt 0] l.H fun r H' => r = ti (lastE 2 l.eps l.eps.length) ∧ H' = l.D := by
  have km := k_last l 2 hn hl
  obtain ⟨nodes, im, eps, q1, q2, q3, q4⟩ := l
  dsimp only [Lg.H, Lg.D, Lg.v] at *
  refine K.ledger_Ledger_Active.callsC rfl ?_
  (conv => arg 3; whnf); repeat ((first | (with_reducible apply sT); rfl | (with_reducible apply sF); rfl | (with_reducible apply sE); rfl); conv => arg 3; whnf)
  refine sat_call km ?_
  rintro r H' ⟨rfl, rfl⟩
  (conv => arg 3; whnf); repeat ((first | (with_reducible apply sT); rfl | (with_reducible apply sF); rfl | (with_reducible apply sE); rfl); conv => arg 3; whnf)
  exact sat_ret ⟨rfl, rfl⟩
end Stk
end

section
/- The ledger: an epoch is proposed; a node's word. -/
namespace Stk
open Go
set_option maxRecDepth 100000
set_option linter.unusedSimpArgs false
set_option linter.unusedVariables false
set_option maxHeartbeats 4000000
abbrev zh : List Tr := List.replicate 32 (.int .u8 0)
abbrev hSh : Sh := .arr 32 (.int .u8)
/-- All keys are digests. -/
def KeysOK (im : List (List Tr × List Tr)) : Prop := ∀ p ∈ im, Tr.fits (.arr 32 p.1) hSh = true ∧ AllB p.2
/-- What is stored under a digest. -/
def findI (h : List Tr) : List (List Tr × List Tr) → Option (List Tr)
  | [] => none
  | (a, d) :: r => if Tr.eqbs h a then some d else findI h r
def putI (h v : List Tr) : List (List Tr × List Tr) → List (List Tr × List Tr)
  | [] => [(h, v)]
  | (a, d) :: r => if Tr.eqbs h a then (h, v) :: r else (a, d) :: putI h v r
theorem mfind_imT (h : List Tr) : ∀ im : List (List Tr × List Tr), mfind (.arr 32 h) (imT im) = (findI h im).map fun d => .sl false 1 d
  | [] => rfl
  | (a, d) :: r => by
    have e : mfind (.arr 32 h) (imT ((a, d) :: r)) = if Tr.eqbs h a then some (.sl false 1 d) else mfind (.arr 32 h) (imT r) := rfl
    rw [e, mfind_imT h r]
    simp only [findI]
    split <;> rfl
theorem mput_imT (h v : List Tr) : ∀ im : List (List Tr × List Tr), mput (.arr 32 h) (.sl false 1 v) (imT im) = imT (putI h v im)
  | [] => rfl
  | (a, d) :: r => by
    have e : mput (.arr 32 h) (.sl false 1 v) (imT ((a, d) :: r)) = if Tr.eqbs h a then (.arr 32 h, .sl false 1 v) :: imT r else (.arr 32 a, .sl false 1 d) :: mput (.arr 32 h) (.sl false 1 v) (imT r) := rfl
    rw [e, mput_imT h v r]
    simp only [putI]
    split <;> rfl
theorem findI_mem {h d : List Tr} : ∀ {im : List (List Tr × List Tr)}, findI h im = some d → ∃ p ∈ im, p.2 = d
  | [], e => by simp [findI] at e
  | (a, x) :: r, e => by
    simp only [findI] at e
    split at e
    · exact ⟨(a, x), by simp, Option.some.inj e⟩
    · obtain ⟨p, h1, h2⟩ := findI_mem e; exact ⟨p, by simp [h1], h2⟩
structure Lg.OK (l : Lg) : Prop where
  hn : 0 < l.nodes ∧ l.nodes ≤ 4
  he : l.eps.length ≤ 64
  hk : KeysOK l.im
  hy : ∀ e ∈ l.eps, e.yes.length = 4
def Lg.propose (l : Lg) (h : List Tr) : Lg × Rp :=
  if (findI h l.im).isSome = false then (l, ⟨6, 0, zh⟩) else if lastE 1 l.eps l.eps.length > 0 then (l, ⟨60, 0, zh⟩) else if l.eps.length = 64 then (l, ⟨7, 0, zh⟩)
  else ({ l with eps := l.eps ++ [⟨h, 1, [false, false, false, false]⟩] }, ⟨0, (l.eps.length + 1 : Nat), zh⟩)
theorem fitsKeys {h : List Tr} {im : List (List Tr × List Tr)} (hh : Tr.fits (.arr 32 h) hSh = true) (hk : KeysOK im) : (Tr.fits (.arr 32 h) hSh && (imT im).all (fun p => p.1.fits hSh)) = true := by
  rw [hh, Bool.true_and, List.all_eq_true]
  intro p hp
  simp only [imT, List.mem_map] at hp
  obtain ⟨q, h1, rfl⟩ := hp
  exact (hk q h1).1
theorem k_propose (l : Lg) (hl : l.OK) (h : List Tr) (hh : Tr.fits (.arr 32 h) hSh = true) : ACalls PP GG F.ledger_Ledger_propose [pt 0, .t (.arr 32 h)] l.H fun r H' => r = (l.propose h).2.a ∧ H' = (l.propose h).1.D := by
  have kp := k_pending l hl.hn.1 (by have := hl.he; omega)
  obtain ⟨hn, he, hk, hy⟩ := hl
  obtain ⟨nodes, im, eps, q1, q2, q3, q4⟩ := l
  generalize hP : Lg.propose ⟨nodes, im, eps, q1, q2, q3, q4⟩ h = P
  unfold Lg.propose at hP
  dsimp only [Lg.H, Lg.D, Lg.v] at *
  refine K.ledger_Ledger_propose.callsC rfl ?_
  (conv => arg 3; whnf); repeat ((first | (with_reducible apply sT); rfl | (with_reducible apply sF); rfl | (with_reducible apply sE); rfl); conv => arg 3; whnf)
  refine sat_asrt (fitsKeys hh hk) ?_
  (conv => arg 3; whnf); repeat ((first | (with_reducible apply sT); rfl | (with_reducible apply sF); rfl | (with_reducible apply sE); rfl); conv => arg 3; whnf)
  rw [mfind_imT]
  cases hm : findI h im with
  | none =>
    rw [hm] at hP
    (conv => arg 3; whnf); repeat ((first | (with_reducible apply sT); rfl | (with_reducible apply sF); rfl | (with_reducible apply sE); rfl); conv => arg 3; whnf)
    rw [if_pos (show (none : Option (List Tr)).isSome = false from rfl)] at hP
    subst hP
    exact sat_ret ⟨rfl, rfl⟩
  | some d =>
    rw [hm] at hP
    rw [if_neg (by simp)] at hP
    (conv => arg 3; whnf); repeat ((first | (with_reducible apply sT); rfl | (with_reducible apply sF); rfl | (with_reducible apply sE); rfl); conv => arg 3; whnf)
    refine sat_call kp ?_
    rintro r H' ⟨rfl, rfl⟩
    (conv => arg 3; whnf); repeat ((first | (with_reducible apply sT); rfl | (with_reducible apply sF); rfl | (with_reducible apply sE); rfl); conv => arg 3; whnf)
    refine sat_br (fun h1 => ?_) (fun h1 => ?_)
    · have h1 : lastE 1 eps eps.length > 0 := by have := of_decide_eq_true h1; omega
      rw [if_pos h1] at hP
      (conv => arg 3; whnf); repeat ((first | (with_reducible apply sT); rfl | (with_reducible apply sF); rfl | (with_reducible apply sE); rfl); conv => arg 3; whnf)
      subst hP
      exact sat_ret ⟨rfl, rfl⟩
    · have h1 : ¬ lastE 1 eps eps.length > 0 := by have := of_decide_eq_false h1; omega
      rw [if_neg h1] at hP
      (conv => arg 3; whnf); repeat ((first | (with_reducible apply sT); rfl | (with_reducible apply sF); rfl | (with_reducible apply sE); rfl); conv => arg 3; whnf)
      refine sat_br (fun h2 => ?_) (fun h2 => ?_)
      · have h2 : eps.length = 64 := by have : (eps.length : Int) = 64 := by simpa using h2
                                        omega
        rw [if_pos h2] at hP
        (conv => arg 3; whnf); repeat ((first | (with_reducible apply sT); rfl | (with_reducible apply sF); rfl | (with_reducible apply sE); rfl); conv => arg 3; whnf)
        subst hP
        exact sat_ret ⟨rfl, rfl⟩
      · have h2 : ¬ eps.length = 64 := by
          have : ¬ (eps.length : Int) = 64 := by simpa using h2
          omega
        rw [if_neg h2] at hP
        (conv => arg 3; whnf); repeat ((first | (with_reducible apply sT); rfl | (with_reducible apply sF); rfl | (with_reducible apply sE); rfl); conv => arg 3; whnf)
        refine sat_asrt (by simp) ?_
        (conv => arg 3; whnf); repeat ((first | (with_reducible apply sT); rfl | (with_reducible apply sF); rfl | (with_reducible apply sE); rfl); conv => arg 3; whnf)
        refine sat_asrt (by simp [roomy]; omega) ?_
        (conv => arg 3; whnf); repeat ((first | (with_reducible apply sT); rfl | (with_reducible apply sF); rfl | (with_reducible apply sE); rfl); conv => arg 3; whnf)
        refine sat_br (fun h3 => ?_) (fun h3 => ?_)
        · (conv => arg 3; whnf); repeat ((first | (with_reducible apply sT); rfl | (with_reducible apply sF); rfl | (with_reducible apply sE); rfl); conv => arg 3; whnf)
          subst hP
          refine sat_ret ⟨?_, ?_⟩
          · simp [Rp.a, Rp.t]; rfl
          · simp [Lg.D, Lg.v]
        · exact absurd h3 (by simp)
/-- A command, lent. -/
structure Cm where
  kind : Int
  client : Int
  seq : Int
  node : Int
  epoch : Int
  yes : Bool
  hash : List Tr
  data : List Tr
abbrev Cm.l (c : Cm) : AV := .agg [.t (.int .u8 c.kind), ti c.client, ti c.seq, ti c.node, ti c.epoch, tb c.yes, .t (.arr 32 c.hash), .bz 1 c.data]
abbrev I64 (n : Int) : Prop := -9223372036854775808 ≤ n ∧ n ≤ 9223372036854775807
structure Cm.OK (c : Cm) : Prop where
  hn : I64 c.node
  he : I64 c.epoch
  hc : I64 c.client
  hs : I64 c.seq
  hh : Tr.fits (.arr 32 c.hash) hSh = true
  hb : AllB c.data
  hl : c.data.length ≤ 2 ^ 40
def Lg.ack1 (l : Lg) (c : Cm) (e : Ep) : Lg × Rp :=
  if e.phase ≠ 1 then (l, ⟨61, 0, zh⟩)
  else if c.yes = false then ({ l with eps := l.eps.set (c.epoch - 1).toNat { e with phase := 3 } }, ⟨0, c.epoch, zh⟩)
  else ({ l with eps := l.eps.set (c.epoch - 1).toNat ⟨e.hash, if ((e.yes.set (c.node - 1).toNat true).take l.nodes.toNat).all id then 2 else 1, e.yes.set (c.node - 1).toNat true⟩ }, ⟨0, c.epoch, zh⟩)
def Lg.ack (l : Lg) (c : Cm) : Lg × Rp :=
  if c.node < 1 ∨ c.node > l.nodes then (l, ⟨1, 0, zh⟩)
  else if c.epoch < 1 ∨ c.epoch > l.eps.length then (l, ⟨6, 0, zh⟩)
  else match l.eps[(c.epoch - 1).toNat]? with
    | some e => l.ack1 c e
    | none => (l, ⟨6, 0, zh⟩)
theorem k_ack (l : Lg) (hl : l.OK) (c : Cm) (hc : c.OK) : ACalls PP GG F.ledger_Ledger_ack [pt 0, c.l] l.H fun r H' => r = (l.ack c).2.a ∧ H' = (l.ack c).1.D := by
  obtain ⟨hn, he, hk, hy⟩ := hl
  obtain ⟨c1, c2, _, _, _, _, _⟩ := hc
  obtain ⟨nodes, im, eps, q1, q2, q3, q4⟩ := l
  obtain ⟨kind, client, seq, node, epoch, yes, hash, data⟩ := c
  generalize hP : Lg.ack ⟨nodes, im, eps, q1, q2, q3, q4⟩ ⟨kind, client, seq, node, epoch, yes, hash, data⟩ = P
  unfold Lg.ack at hP
  dsimp only [Lg.H, Lg.D, Lg.v, Cm.l] at *
  refine K.ledger_Ledger_ack.callsC rfl ?_
  (conv => arg 3; whnf); repeat ((first | (with_reducible apply sT); rfl | (with_reducible apply sF); rfl | (with_reducible apply sE); rfl); conv => arg 3; whnf)
  refine sat_br (fun h1 => ?_) (fun h1 => ?_)
  · have h1 : node < 1 := by simpa using h1
    rw [if_pos (.inl h1)] at hP
    (conv => arg 3; whnf); repeat ((first | (with_reducible apply sT); rfl | (with_reducible apply sF); rfl | (with_reducible apply sE); rfl); conv => arg 3; whnf)
    subst hP
    exact sat_ret ⟨rfl, rfl⟩
  have h1 : ¬ node < 1 := by simpa using h1
  (conv => arg 3; whnf); repeat ((first | (with_reducible apply sT); rfl | (with_reducible apply sF); rfl | (with_reducible apply sE); rfl); conv => arg 3; whnf)
  refine sat_br (fun h2 => ?_) (fun h2 => ?_)
  · have h2 : node > nodes := by simpa using h2
    rw [if_pos (.inr h2)] at hP
    (conv => arg 3; whnf); repeat ((first | (with_reducible apply sT); rfl | (with_reducible apply sF); rfl | (with_reducible apply sE); rfl); conv => arg 3; whnf)
    subst hP
    exact sat_ret ⟨rfl, rfl⟩
  have h2 : ¬ node > nodes := by simpa using h2
  rw [if_neg (by omega)] at hP
  (conv => arg 3; whnf); repeat ((first | (with_reducible apply sT); rfl | (with_reducible apply sF); rfl | (with_reducible apply sE); rfl); conv => arg 3; whnf)
  refine sat_br (fun h3 => ?_) (fun h3 => ?_)
  · have h3 : epoch < 1 := by simpa using h3
    rw [if_pos (.inl h3)] at hP
    (conv => arg 3; whnf); repeat ((first | (with_reducible apply sT); rfl | (with_reducible apply sF); rfl | (with_reducible apply sE); rfl); conv => arg 3; whnf)
    subst hP
    exact sat_ret ⟨rfl, rfl⟩
  have h3 : ¬ epoch < 1 := by simpa using h3
  (conv => arg 3; whnf); repeat ((first | (with_reducible apply sT); rfl | (with_reducible apply sF); rfl | (with_reducible apply sE); rfl); conv => arg 3; whnf)
  refine sat_br (fun h4 => ?_) (fun h4 => ?_)
  · have h4 : epoch > eps.length := by simpa using h4
    rw [if_pos (.inr h4)] at hP
    (conv => arg 3; whnf); repeat ((first | (with_reducible apply sT); rfl | (with_reducible apply sF); rfl | (with_reducible apply sE); rfl); conv => arg 3; whnf)
    subst hP
    exact sat_ret ⟨rfl, rfl⟩
  have h4 : ¬ epoch > eps.length := by simpa using h4
  rw [if_neg (by omega)] at hP
  obtain ⟨j, hj⟩ : ∃ j : Nat, epoch - 1 = j := ⟨(epoch - 1).toNat, by omega⟩
  have hjl : j < eps.length := by omega
  have hu : eps[j]? = some eps[j] := List.getElem?_eq_getElem hjl
  have huy := hy _ (List.mem_of_getElem? hu)
  generalize eps[j] = u at hu huy
  have hut : (eps.map Ep.t)[0 + j]? = some u.t := by rw [Nat.zero_add, List.getElem?_map, hu]; rfl
  rw [hj, Int.toNat_natCast, hu] at hP
  dsimp only at hP
  unfold Lg.ack1 at hP
  dsimp only at hP
  (conv => arg 3; whnf); repeat ((first | (with_reducible apply sT); rfl | (with_reducible apply sF); rfl | (with_reducible apply sE); rfl); conv => arg 3; whnf)
  refine sat_rng (wrap64 (by omega) (by omega)) ?_
  rw [hj]
  (conv => arg 3; whnf); repeat ((first | (with_reducible apply sT); rfl | (with_reducible apply sF); rfl | (with_reducible apply sE); rfl); conv => arg 3; whnf)
  refine sat_asrt (decide_eq_true (by omega)) ?_
  rw [Int.toNat_natCast]
  (conv => arg 3; whnf); repeat ((first | (with_reducible apply sT); rfl | (with_reducible apply sF); rfl | (with_reducible apply sE); rfl); conv => arg 3; whnf)
  refine sat_idx u.t (by omega) (by rw [Int.toNat_natCast]; exact hut) ?_
  (conv => arg 3; whnf); repeat ((first | (with_reducible apply sT); rfl | (with_reducible apply sF); rfl | (with_reducible apply sE); rfl); conv => arg 3; whnf)
  refine sat_br (fun h5 => ?_) (fun h5 => ?_)
  · have h5 : u.phase ≠ 1 := by simpa using h5
    rw [if_pos h5] at hP
    (conv => arg 3; whnf); repeat ((first | (with_reducible apply sT); rfl | (with_reducible apply sF); rfl | (with_reducible apply sE); rfl); conv => arg 3; whnf)
    subst hP
    exact sat_ret ⟨rfl, rfl⟩
  have h5 : ¬ u.phase ≠ 1 := by simpa using h5
  rw [if_neg h5] at hP
  (conv => arg 3; whnf); repeat ((first | (with_reducible apply sT); rfl | (with_reducible apply sF); rfl | (with_reducible apply sE); rfl); conv => arg 3; whnf)
  refine sat_br (fun h6 => ?_) (fun h6 => ?_)
  · have h6 : yes = false := by simpa using h6
    rw [if_pos h6] at hP
    (conv => arg 3; whnf); repeat ((first | (with_reducible apply sT); rfl | (with_reducible apply sF); rfl | (with_reducible apply sE); rfl); conv => arg 3; whnf)
    refine sat_idx u.t (by omega) (by rw [Int.toNat_natCast]; exact hut) ?_
    (conv => arg 3; whnf); repeat ((first | (with_reducible apply sT); rfl | (with_reducible apply sF); rfl | (with_reducible apply sE); rfl); conv => arg 3; whnf)
    subst hP
    refine sat_ret ⟨rfl, ?_⟩
    simp only [List.map_set, List.length_set, Nat.zero_add, Int.toNat_natCast, show (epoch - 1).toNat = j by omega]
  have h6 : ¬ yes = false := by simpa using h6
  rw [if_neg h6] at hP
  (conv => arg 3; whnf); repeat ((first | (with_reducible apply sT); rfl | (with_reducible apply sF); rfl | (with_reducible apply sE); rfl); conv => arg 3; whnf)
  obtain ⟨m, hm⟩ : ∃ m : Nat, node - 1 = m := ⟨(node - 1).toNat, by omega⟩
  have hm4 : m < 4 := by omega
  refine sat_rng (wrap64 (by omega) (by omega)) ?_
  rw [hm]
  (conv => arg 3; whnf); repeat ((first | (with_reducible apply sT); rfl | (with_reducible apply sF); rfl | (with_reducible apply sE); rfl); conv => arg 3; whnf)
  refine sat_asrt (decide_eq_true (by omega)) ?_
  rw [Int.toNat_natCast]
  (conv => arg 3; whnf); repeat ((first | (with_reducible apply sT); rfl | (with_reducible apply sF); rfl | (with_reducible apply sE); rfl); conv => arg 3; whnf)
  refine sat_idx u.t (by omega) (by rw [Int.toNat_natCast]; exact hut) ?_
  (conv => arg 3; whnf); repeat ((first | (with_reducible apply sT); rfl | (with_reducible apply sF); rfl | (with_reducible apply sE); rfl); conv => arg 3; whnf)
  refine sat_asrt (by simp [huy]; omega) ?_
  (conv => arg 3; whnf); repeat ((first | (with_reducible apply sT); rfl | (with_reducible apply sF); rfl | (with_reducible apply sE); rfl); conv => arg 3; whnf)
  have hX : (List.set (eps.map Ep.t) (0 + j) (Ep.t ⟨u.hash, u.phase, u.yes.set m true⟩)) = (eps.set j ⟨u.hash, u.phase, u.yes.set m true⟩).map Ep.t := by rw [Nat.zero_add, List.map_set]
  have hX' : ((eps.set j ⟨u.hash, u.phase, u.yes.set m true⟩).map Ep.t)[0 + j]? = some (Ep.t ⟨u.hash, u.phase, u.yes.set m true⟩) := by rw [← hX, List.getElem?_set_self (by simp; omega)]
  have hys : List.set (List.map Tr.bool u.yes) m (.bool true) = (u.yes.set m true).map Tr.bool := by rw [List.map_set]
  rw [hys, hX]
  have hyl : (u.yes.set m true).length = 4 := by simp [huy]
  have hP1 : P = (⟨nodes, im, eps.set j ⟨u.hash, if ((u.yes.set m true).take nodes.toNat).all id then 2 else 1, u.yes.set m true⟩, q1, q2, q3, q4⟩, ⟨0, epoch, zh⟩) := by
    rw [← hP, hm, hj]; rfl
  clear hP
  have hset : ∀ e : Ep, ((eps.set j ⟨u.hash, u.phase, u.yes.set m true⟩).map Ep.t).set (0 + j) e.t = (eps.set j e).map Ep.t := fun e => by rw [← hX, List.set_set, Nat.zero_add, List.map_set]
  have hph : u.phase = 1 := by omega
  have hlen : (eps.set j ⟨u.hash, u.phase, u.yes.set m true⟩).length = eps.length := by simp
  have hset1 : eps.set j ⟨u.hash, 1, u.yes.set m true⟩ = eps.set j ⟨u.hash, u.phase, u.yes.set m true⟩ := by rw [hph]
  generalize hE : eps.set j ⟨u.hash, u.phase, u.yes.set m true⟩ = E at *
  generalize hY : u.yes.set m true = Y at *
  refine sat_loopOf mkX_ops (σ := { i : Nat // (i : Int) ≤ nodes ∧ (Y.take i).all id = true }) (fun x => [(0, pt 0), (3, pt 3), (4, pt 4), (5, .ptr 2 (0 + j) 0 [] none), (69, ti nodes), (70, ti x.1)])
    (fun _ => [.var (.agg [ti nodes, .mp 1, .sl 2 0 [] 0 eps.length none, .t (.agg [q1.t, q2.t, q3.t, q4.t])]), .map (imT im), .row 37 (E.map Ep.t), .var (Cm.l ⟨kind, client, seq, node, epoch, yes, hash, data⟩), .var (Rp.a ⟨0, 0, zh⟩)]) (fun x => nodes.toNat - x.1)
    (fun ex fr' H' => (ex = .ret ∧ fr' = [(3, pt 3), (4, pt 4), (5, .ptr 2 (0 + j) 0 [] none)] ∧ (Y.take nodes.toNat).all id = false ∧ H' = [.var (.agg [ti nodes, .mp 1, .sl 2 0 [] 0 eps.length none, .t (.agg [q1.t, q2.t, q3.t, q4.t])]), .map (imT im), .row 37 (E.map Ep.t), .var (Cm.l ⟨kind, client, seq, node, epoch, yes, hash, data⟩), .var (Rp.a ⟨0, epoch, zh⟩)]) ∨
      (ex = .exit 1 ∧ fr' = [(3, pt 3), (4, pt 4), (5, .ptr 2 (0 + j) 0 [] none)] ∧ (Y.take nodes.toNat).all id = true ∧ H' = [.var (.agg [ti nodes, .mp 1, .sl 2 0 [] 0 eps.length none, .t (.agg [q1.t, q2.t, q3.t, q4.t])]), .map (imT im), .row 37 (E.map Ep.t), .var (Cm.l ⟨kind, client, seq, node, epoch, yes, hash, data⟩), .var (Rp.a ⟨0, 0, zh⟩)])) ⟨0, by omega, by simp⟩ ?_ ?_
  · rintro ⟨i, hi, hall⟩
    dsimp only [Cm.l, Rp.a]
    (conv => arg 3; whnf); repeat ((first | (with_reducible apply sT); rfl | (with_reducible apply sF); rfl | (with_reducible apply sE); rfl); conv => arg 3; whnf)
    refine sat_br (fun g => ?_) (fun g => ?_)
    · have g : (i : Int) < nodes := by simpa using g
      have hi4 : i < 4 := by omega
      have hyi : Y[i]? = some Y[i] := List.getElem?_eq_getElem (by omega)
      generalize Y[i] = y at hyi
      (conv => arg 3; whnf); repeat ((first | (with_reducible apply sT); rfl | (with_reducible apply sF); rfl | (with_reducible apply sE); rfl); conv => arg 3; whnf)
      refine sat_asrt (decide_eq_true (by omega)) ?_
      rw [Int.toNat_natCast]
      (conv => arg 3; whnf); repeat ((first | (with_reducible apply sT); rfl | (with_reducible apply sF); rfl | (with_reducible apply sE); rfl); conv => arg 3; whnf)
      refine sat_idx _ (by omega) (by rw [Int.toNat_natCast]; exact hX') ?_
      (conv => arg 3; whnf); repeat ((first | (with_reducible apply sT); rfl | (with_reducible apply sF); rfl | (with_reducible apply sE); rfl); conv => arg 3; whnf)
      refine sat_idx (.bool y) (by omega) (by rw [Int.toNat_natCast, List.getElem?_map, hyi]; rfl) ?_
      (conv => arg 3; whnf); repeat ((first | (with_reducible apply sT); rfl | (with_reducible apply sF); rfl | (with_reducible apply sE); rfl); conv => arg 3; whnf)
      refine sat_br (fun g2 => ?_) (fun g2 => ?_)
      · have g2 : y = false := by simpa using g2
        (conv => arg 3; whnf); repeat ((first | (with_reducible apply sT); rfl | (with_reducible apply sF); rfl | (with_reducible apply sE); rfl); conv => arg 3; whnf)
        refine sat_ret (.inl ⟨rfl, rfl, ?_, rfl⟩)
        rw [List.all_eq_false]
        refine ⟨y, ?_, by simp [g2]⟩
        rw [List.mem_iff_getElem?]
        exact ⟨i, by rw [List.getElem?_take, if_pos (by omega), hyi]⟩
      · have g2 : y = true := by simpa using g2
        (conv => arg 3; whnf); repeat ((first | (with_reducible apply sT); rfl | (with_reducible apply sF); rfl | (with_reducible apply sE); rfl); conv => arg 3; whnf)
        refine sat_rng (wrap64 (by omega) (by omega)) ?_
        (conv => arg 3; whnf); repeat ((first | (with_reducible apply sT); rfl | (with_reducible apply sF); rfl | (with_reducible apply sE); rfl); conv => arg 3; whnf)
        refine sat_ret ⟨⟨i + 1, by omega, ?_⟩, rfl, rfl, by show nodes.toNat - (i + 1) < nodes.toNat - i; omega⟩
        rw [List.take_add_one, hyi]
        simp [hall, g2]
    · have g : ¬ (i : Int) < nodes := by simpa using g
      obtain rfl : i = nodes.toNat := by omega
      (conv => arg 3; whnf); repeat ((first | (with_reducible apply sT); rfl | (with_reducible apply sF); rfl | (with_reducible apply sE); rfl); conv => arg 3; whnf)
      exact sat_ret (.inr ⟨rfl, rfl, hall, rfl⟩)
  · rintro ex fr' H' (⟨rfl, rfl, h7, rfl⟩ | ⟨rfl, rfl, h7, rfl⟩)
    · (conv => arg 3; whnf); repeat ((first | (with_reducible apply sT); rfl | (with_reducible apply sF); rfl | (with_reducible apply sE); rfl); conv => arg 3; whnf)
      rw [hP1, h7]
      refine sat_ret ⟨rfl, ?_⟩
      simp only [Bool.false_eq_true, if_false]
      rw [hset1, hlen]
    · (conv => arg 3; whnf); repeat ((first | (with_reducible apply sT); rfl | (with_reducible apply sF); rfl | (with_reducible apply sE); rfl); conv => arg 3; whnf)
      refine sat_idx _ (by omega) (by rw [Int.toNat_natCast]; exact hX') ?_
      (conv => arg 3; whnf); repeat ((first | (with_reducible apply sT); rfl | (with_reducible apply sF); rfl | (with_reducible apply sE); rfl); conv => arg 3; whnf)
      rw [hP1, h7]
      refine sat_ret ⟨rfl, ?_⟩
      simp only [if_true]
      have := hset ⟨u.hash, 2, Y⟩
      rw [← this, List.length_set]
end Stk
end

section
/- The ledger: an image is stored. -/
namespace Stk
open Go
set_option maxRecDepth 100000
set_option linter.unusedSimpArgs false
set_option linter.unusedVariables false
set_option maxHeartbeats 4000000
theorem k_bclone (L : List Tr) (h : L.length ≤ 2 ^ 46) : ACalls PP GG F.bytes_Clone [.bz 1 L] [] fun r H' => r = .sl 0 0 [] 0 L.length none ∧ H' = [.row 1 L] := by
  refine K.bytes_Clone.callsC rfl ?_
  (conv => arg 3; whnf); repeat ((first | (with_reducible apply sT); rfl | (with_reducible apply sF); rfl | (with_reducible apply sE); rfl); conv => arg 3; whnf)
  refine sat_br (fun h1 => ?_) (fun h1 => ?_)
  · have : L = [] := by simpa using h1
    subst this
    refine sat_any ?_ ?_
    · (conv => arg 3; whnf); repeat ((first | (with_reducible apply sT); rfl | (with_reducible apply sF); rfl | (with_reducible apply sE); rfl); conv => arg 3; whnf)
      exact sat_ret ⟨rfl, rfl⟩
    · (conv => arg 3; whnf); repeat ((first | (with_reducible apply sT); rfl | (with_reducible apply sF); rfl | (with_reducible apply sE); rfl); conv => arg 3; whnf)
      refine sat_asrt (by decide) ?_
      (conv => arg 3; whnf); repeat ((first | (with_reducible apply sT); rfl | (with_reducible apply sF); rfl | (with_reducible apply sE); rfl); conv => arg 3; whnf)
      exact sat_ret ⟨rfl, rfl⟩
  · (conv => arg 3; whnf); repeat ((first | (with_reducible apply sT); rfl | (with_reducible apply sF); rfl | (with_reducible apply sE); rfl); conv => arg 3; whnf)
    refine sat_asrt (by simp [roomy]; omega) ?_
    (conv => arg 3; whnf); repeat ((first | (with_reducible apply sT); rfl | (with_reducible apply sF); rfl | (with_reducible apply sE); rfl); conv => arg 3; whnf)
    exact sat_ret ⟨rfl, rfl⟩
theorem allB_isByte {L : List Tr} (h : AllB L) : L.all isByte = true := by
  rw [List.all_eq_true]
  intro y hy
  obtain ⟨v, rfl, h1, h2⟩ := h y hy
  simp [isByte]; omega
theorem byteOf_inj {a b : List Tr} (ha : AllB a) (hb : AllB b) (h : a.map byteOfT = b.map byteOfT) : a = b := by
  apply List.ext_getElem?
  intro i
  have hi := congrArg (·[i]?) h
  simp only [List.getElem?_map] at hi
  cases h1 : a[i]? with
  | none => rw [h1] at hi; cases h2 : b[i]? with
    | none => rfl
    | some y => rw [h2] at hi; cases hi
  | some x => rw [h1] at hi; cases h2 : b[i]? with
    | none => rw [h2] at hi; cases hi
    | some y =>
      rw [h2] at hi
      obtain ⟨v, rfl, v1, v2⟩ := ha x (List.mem_of_getElem? h1)
      obtain ⟨u, rfl, u1, u2⟩ := hb y (List.mem_of_getElem? h2)
      have : UInt8.ofNat v.toNat = UInt8.ofNat u.toNat := Option.some.inj hi
      have := congrArg UInt8.toNat this
      simp only [UInt8.toNat_ofNat'] at this
      have : v = u := by omega
      rw [this]
theorem eqbs_bytes : ∀ {a b : List Tr}, AllB a → AllB b → (Tr.eqbs a b = true ↔ a = b)
  | [], [], _, _ => by simp [Tr.eqbs]
  | [], _ :: _, _, _ => by simp [Tr.eqbs]
  | _ :: _, [], _, _ => by simp [Tr.eqbs]
  | x :: a, y :: b, ha, hb => by
    obtain ⟨v, rfl, _, _⟩ := ha x (by simp)
    obtain ⟨u, rfl, _, _⟩ := hb y (by simp)
    have := eqbs_bytes (a := a) (b := b) (fun z hz => ha z (by simp [hz])) (fun z hz => hb z (by simp [hz]))
    simp only [Tr.eqbs, Tr.eqb, Bool.and_eq_true, beq_iff_eq, this, List.cons.injEq, Tr.int.injEq, true_and]
theorem str_eqb {a b : List Tr} (ha : AllB a) (hb : AllB b) : ((strOf a).toList == (strOf b).toList) = Tr.eqbs a b := by
  rw [Bool.eq_iff_iff, eqbs_bytes ha hb, beq_iff_eq]
  constructor
  · intro h
    have h := toList_inj h
    refine byteOf_inj ha hb ?_
    have : (strOf a).data = (strOf b).data := by rw [h]
    simpa [strOf] using this
  · rintro rfl; rfl
theorem k_bequal (a b : List Tr) (ha : AllB a) (hb : AllB b) : ACalls PP GG F.bytes_Equal [.bz 1 a, .bz 1 b] [] fun r H' => r = tb (Tr.eqbs a b) ∧ H' = [] := by
  refine K.bytes_Equal.callsC rfl ?_
  (conv => arg 3; whnf); repeat ((first | (with_reducible apply sT); rfl | (with_reducible apply sF); rfl | (with_reducible apply sE); rfl); conv => arg 3; whnf)
  refine sat_asrt (allB_isByte ha) ?_
  (conv => arg 3; whnf); repeat ((first | (with_reducible apply sT); rfl | (with_reducible apply sF); rfl | (with_reducible apply sE); rfl); conv => arg 3; whnf)
  refine sat_asrt (allB_isByte hb) ?_
  (conv => arg 3; whnf); repeat ((first | (with_reducible apply sT); rfl | (with_reducible apply sF); rfl | (with_reducible apply sE); rfl); conv => arg 3; whnf)
  refine sat_ret ⟨?_, rfl⟩
  rw [str_eqb ha hb]
theorem w4_b (x : Int) : AllB (w4 x) := by
  intro y hy
  unfold w4 at hy
  simp only [List.mem_cons, List.not_mem_nil, or_false] at hy
  rcases hy with rfl | rfl | rfl | rfl
  · exact ⟨_, rfl, by unfold wv; rw [IntKind.wrap_u8]; omega, by unfold wv; rw [IntKind.wrap_u8]; omega⟩
  · exact ⟨_, rfl, by unfold wv; rw [IntKind.wrap_u8]; omega, by unfold wv; rw [IntKind.wrap_u8]; omega⟩
  · exact ⟨_, rfl, by unfold wv; rw [IntKind.wrap_u8]; omega, by unfold wv; rw [IntKind.wrap_u8]; omega⟩
  · exact ⟨_, rfl, by rw [IntKind.wrap_u8]; omega, by rw [IntKind.wrap_u8]; omega⟩
theorem shaB (L : List Tr) : AllB (shaL L) := by
  unfold shaL outH
  exact (((((((w4_b _).app (w4_b _)).app (w4_b _)).app (w4_b _)).app (w4_b _)).app (w4_b _)).app (w4_b _)).app (w4_b _)
theorem sha_fits (L : List Tr) : Tr.fits (.arr 32 (shaL L)) hSh = true := by
  show (Nat.beq 32 32 && Tr.fitsa (shaL L) (.int .u8)) = true
  rw [show Nat.beq 32 32 = true from rfl, Bool.true_and]
  have : ∀ X : List Tr, AllB X → Tr.fitsa X (.int .u8) = true := by
    intro X
    induction X with
    | nil => intro _; rfl
    | cons x r ih =>
      intro h
      obtain ⟨v, rfl, _, _⟩ := h x (by simp)
      simp only [Tr.fitsa, Tr.fits, kindEq, Bool.true_and]
      exact ih fun z hz => h z (by simp [hz])
  exact this _ (shaB L)
def Lg.store (l : Lg) (L : List Tr) : Lg × Rp :=
  if (decB L).2 ≠ 0 then (l, ⟨5, 0, zh⟩)
  else match findI (shaL L) l.im with
    | some d => if Tr.eqbs d L then (l, ⟨0, 0, shaL L⟩) else (l, ⟨62, 0, shaL L⟩)
    | none => if l.im.length = 16 then (l, ⟨7, 0, shaL L⟩) else ({ l with im := putI (shaL L) L l.im }, ⟨0, 0, shaL L⟩)
theorem k_store (l : Lg) (hl : l.OK) (L : List Tr) (hb : AllB L) (hL : L.length ≤ 2 ^ 40) : ACalls PP GG F.ledger_Ledger_store [pt 0, .bz 1 L] l.H fun r H' => r = (l.store L).2.a ∧ H' = (l.store L).1.D := by
  obtain ⟨hn, he, hk, hy⟩ := hl
  obtain ⟨nodes, im, eps, q1, q2, q3, q4⟩ := l
  generalize hP : Lg.store ⟨nodes, im, eps, q1, q2, q3, q4⟩ L = P
  unfold Lg.store at hP
  have kd := k_decode L hb (by omega)
  dsimp only [Lg.H, Lg.D, Lg.v, Rp.a] at *
  refine K.ledger_Ledger_store.callsC rfl ?_
  (conv => arg 3; whnf); repeat ((first | (with_reducible apply sT); rfl | (with_reducible apply sF); rfl | (with_reducible apply sE); rfl); conv => arg 3; whnf)
  refine sat_call kd ?_
  rintro r H' ⟨rfl, rfl⟩
  clear kd
  generalize decB L = dd at *
  obtain ⟨⟨f, A, g, B⟩, ee⟩ := dd
  dsimp only at hP ⊢
  rcases A with _ | ⟨a, A⟩ <;> rcases B with _ | ⟨b, B⟩
  all_goals
    (conv => arg 3; whnf); repeat ((first | (with_reducible apply sT); rfl | (with_reducible apply sF); rfl | (with_reducible apply sE); rfl); conv => arg 3; whnf)
    refine sat_br (fun h1 => ?_) (fun h1 => ?_)
    · have h1 : ee ≠ 0 := by simpa using h1
      rw [if_pos h1] at hP
      (conv => arg 3; whnf); repeat ((first | (with_reducible apply sT); rfl | (with_reducible apply sF); rfl | (with_reducible apply sE); rfl); conv => arg 3; whnf)
      subst hP
      exact sat_ret ⟨rfl, rfl⟩
    have h1 : ¬ ee ≠ 0 := by simpa using h1
    rw [if_neg h1] at hP
    (conv => arg 3; whnf); repeat ((first | (with_reducible apply sT); rfl | (with_reducible apply sF); rfl | (with_reducible apply sE); rfl); conv => arg 3; whnf)
    refine sat_call (k_sum L hb (by omega)) ?_
    rintro r H' ⟨rfl, rfl⟩
    (conv => arg 3; whnf); repeat ((first | (with_reducible apply sT); rfl | (with_reducible apply sF); rfl | (with_reducible apply sE); rfl); conv => arg 3; whnf)
    refine sat_asrt (fitsKeys (sha_fits L) hk) ?_
    rw [mfind_imT]
    cases hm : findI (shaL L) im with
    | some d =>
      rw [hm] at hP
      dsimp only at hP
      obtain ⟨p, hp, rfl⟩ := findI_mem hm
      (conv => arg 3; whnf); repeat ((first | (with_reducible apply sT); rfl | (with_reducible apply sF); rfl | (with_reducible apply sE); rfl); conv => arg 3; whnf)
      refine sat_call (k_bequal p.2 L (hk p hp).2 hb) ?_
      rintro r H' ⟨rfl, rfl⟩
      (conv => arg 3; whnf); repeat ((first | (with_reducible apply sT); rfl | (with_reducible apply sF); rfl | (with_reducible apply sE); rfl); conv => arg 3; whnf)
      refine sat_br (fun h2 => ?_) (fun h2 => ?_)
      · have h2 : ¬ Tr.eqbs p.2 L = true := by simpa using h2
        rw [if_neg h2] at hP
        (conv => arg 3; whnf); repeat ((first | (with_reducible apply sT); rfl | (with_reducible apply sF); rfl | (with_reducible apply sE); rfl); conv => arg 3; whnf)
        subst hP
        exact sat_ret ⟨rfl, rfl⟩
      · have h2 : Tr.eqbs p.2 L = true := by simpa using h2
        rw [if_pos h2] at hP
        (conv => arg 3; whnf); repeat ((first | (with_reducible apply sT); rfl | (with_reducible apply sF); rfl | (with_reducible apply sE); rfl); conv => arg 3; whnf)
        subst hP
        exact sat_ret ⟨rfl, rfl⟩
    | none =>
      rw [hm] at hP
      dsimp only at hP
      (conv => arg 3; whnf); repeat ((first | (with_reducible apply sT); rfl | (with_reducible apply sF); rfl | (with_reducible apply sE); rfl); conv => arg 3; whnf)
      refine sat_br (fun h2 => ?_) (fun h2 => ?_)
      · have h2 : im.length = 16 := by
          have : ((imT im).length : Int) = 16 := by simpa using h2
          simp [imT] at this; omega
        rw [if_pos h2] at hP
        (conv => arg 3; whnf); repeat ((first | (with_reducible apply sT); rfl | (with_reducible apply sF); rfl | (with_reducible apply sE); rfl); conv => arg 3; whnf)
        subst hP
        exact sat_ret ⟨rfl, rfl⟩
      · have h2 : ¬ im.length = 16 := by
          have : ¬ ((imT im).length : Int) = 16 := by simpa using h2
          simp [imT] at this; omega
        rw [if_neg h2] at hP
        (conv => arg 3; whnf); repeat ((first | (with_reducible apply sT); rfl | (with_reducible apply sF); rfl | (with_reducible apply sE); rfl); conv => arg 3; whnf)
        refine sat_call (k_bclone L (by omega)) ?_
        rintro r H' ⟨rfl, rfl⟩
        (conv => arg 3; whnf); repeat ((first | (with_reducible apply sT); rfl | (with_reducible apply sF); rfl | (with_reducible apply sE); rfl); conv => arg 3; whnf)
        refine sat_asrt (fitsKeys (sha_fits L) hk) ?_
        rw [show List.take L.length (List.drop 0 L) = L by simp, mput_imT]
        (conv => arg 3; whnf); repeat ((first | (with_reducible apply sT); rfl | (with_reducible apply sF); rfl | (with_reducible apply sE); rfl); conv => arg 3; whnf)
        subst hP
        exact sat_ret ⟨rfl, rfl⟩
end Stk
end

section
/- The ledger: a client's request is done once; a command is done. -/
namespace Stk
open Go
set_option maxRecDepth 100000
set_option linter.unusedSimpArgs false
set_option linter.unusedVariables false
set_option maxHeartbeats 4000000
/-- A ledger whose blocks are named otherwise, ahead of it a box. -/
abbrev Lg.H2 (l : Lg) (c : Cm) : Hp := [.var (pt 1), .var (.agg [ti l.nodes, .mp 2, .sl 3 0 [] 0 l.eps.length none, .t (.agg [l.q1.t, l.q2.t, l.q3.t, l.q4.t])]), .map (imT l.im), .row 37 (l.eps.map Ep.t), .var c.l]
abbrev Lg.D2 (l : Lg) (c : Cm) : Hp := [.var (pt 1), .var (.agg [ti l.nodes, .mp 2, .sl 5 0 [] 0 l.eps.length none, .t (.agg [l.q1.t, l.q2.t, l.q3.t, l.q4.t])]), .map (imT l.im), .gone, .var c.l, .row 37 (l.eps.map Ep.t)]
theorem k_do1 (l : Lg) (hl : l.OK) (c : Cm) (hc : c.OK) : ACalls PP GG F.ledger_Ledger_Apply_1 [pt 0, pt 4] (l.H2 c) fun r H' => r = (l.store c.data).2.a ∧ H' = (l.store c.data).1.D2 c := by
  have ks := k_store l hl c.data hc.hb hc.hl
  generalize l.store c.data = P at *
  obtain ⟨⟨n', im', eps', q1', q2', q3', q4'⟩, r'⟩ := P
  obtain ⟨nodes, im, eps, q1, q2, q3, q4⟩ := l
  obtain ⟨kind, client, seq, node, epoch, yes, hash, data⟩ := c
  dsimp only [Lg.H, Lg.D, Lg.v, Cm.l, Lg.H2, Lg.D2, Rp.a] at *
  refine K.ledger_Ledger_Apply_1.callsC rfl ?_
  (conv => arg 3; whnf); repeat ((first | (with_reducible apply sT); rfl | (with_reducible apply sF); rfl | (with_reducible apply sE); rfl); conv => arg 3; whnf)
  refine sat_call ks ?_
  rintro r H' ⟨rfl, rfl⟩
  (conv => arg 3; whnf); repeat ((first | (with_reducible apply sT); rfl | (with_reducible apply sF); rfl | (with_reducible apply sE); rfl); conv => arg 3; whnf)
  exact sat_ret ⟨rfl, rfl⟩
theorem k_do2 (l : Lg) (hl : l.OK) (c : Cm) (hc : c.OK) : ACalls PP GG F.ledger_Ledger_Apply_2 [pt 0, pt 4] (l.H2 c) fun r H' => r = (l.propose c.hash).2.a ∧ H' = (l.propose c.hash).1.D2 c := by
  have ks := k_propose l hl c.hash hc.hh
  generalize l.propose c.hash = P at *
  obtain ⟨⟨n', im', eps', q1', q2', q3', q4'⟩, r'⟩ := P
  obtain ⟨nodes, im, eps, q1, q2, q3, q4⟩ := l
  obtain ⟨kind, client, seq, node, epoch, yes, hash, data⟩ := c
  dsimp only [Lg.H, Lg.D, Lg.v, Cm.l, Lg.H2, Lg.D2, Rp.a] at *
  refine K.ledger_Ledger_Apply_2.callsC rfl ?_
  (conv => arg 3; whnf); repeat ((first | (with_reducible apply sT); rfl | (with_reducible apply sF); rfl | (with_reducible apply sE); rfl); conv => arg 3; whnf)
  refine sat_call ks ?_
  rintro r H' ⟨rfl, rfl⟩
  (conv => arg 3; whnf); repeat ((first | (with_reducible apply sT); rfl | (with_reducible apply sF); rfl | (with_reducible apply sE); rfl); conv => arg 3; whnf)
  exact sat_ret ⟨rfl, rfl⟩
/-- A client's last request. -/
def Lg.q (l : Lg) (k : Int) : Rq := if k = 1 then l.q1 else if k = 2 then l.q2 else if k = 3 then l.q3 else l.q4
def Lg.setq (l : Lg) (k : Int) (x : Rq) : Lg := if k = 1 then { l with q1 := x } else if k = 2 then { l with q2 := x } else if k = 3 then { l with q3 := x } else { l with q4 := x }
def Lg.once (l : Lg) (c : Cm) (f : Lg × Rp) : Lg × Rp :=
  if c.client < 1 ∨ c.client > 4 ∨ c.seq < 1 then (l, ⟨1, 0, zh⟩)
  else if c.seq < (l.q c.client).seq then (l, ⟨61, 0, zh⟩)
  else if c.seq > (l.q c.client).seq then (f.1.setq c.client ⟨c.seq, f.2⟩, f.2)
  else (l, (l.q c.client).r)
abbrev Lg.H3 (l : Lg) (c : Cm) : Hp := [.var (l.v 2), .map (imT l.im), .row 37 (l.eps.map Ep.t), .var (pt 0), .var c.l]
abbrev Lg.D3 (l : Lg) (c : Cm) : Hp := [.var (l.v 5), .map (imT l.im), .gone, .var (pt 0), .var c.l, .row 37 (l.eps.map Ep.t)]
theorem k_once1 (l : Lg) (hl : l.OK) (c : Cm) (hc : c.OK) : ACalls PP GG F.ledger_Ledger_once [pt 0, c.l, .fn F.ledger_Ledger_Apply_1 [] [pt 3, pt 4]] (l.H3 c) fun r H' => r = (l.once c (l.store c.data)).2.a ∧ H' = (l.once c (l.store c.data)).1.D3 c := by
  have kd := k_do1 l hl c hc
  obtain ⟨_, _, c3, c4, _, _, _⟩ := hc
  generalize hF : l.store c.data = P at *
  generalize hP : l.once c P = R
  unfold Lg.once at hP
  obtain ⟨⟨n', im', eps', q1', q2', q3', q4'⟩, r'⟩ := P
  obtain ⟨nodes, im, eps, q1, q2, q3, q4⟩ := l
  obtain ⟨kind, client, seq, node, epoch, yes, hash, data⟩ := c
  dsimp only [Lg.H, Lg.D, Lg.v, Cm.l, Lg.H2, Lg.D2, Lg.H3, Lg.D3, Rp.a] at *
  refine K.ledger_Ledger_once.callsC rfl ?_
  (conv => arg 3; whnf); repeat ((first | (with_reducible apply sT); rfl | (with_reducible apply sF); rfl | (with_reducible apply sE); rfl); conv => arg 3; whnf)
  refine sat_br (fun h1 => ?_) (fun h1 => ?_)
  · have h1 : client < 1 := by simpa using h1
    rw [if_pos (.inl h1)] at hP
    (conv => arg 3; whnf); repeat ((first | (with_reducible apply sT); rfl | (with_reducible apply sF); rfl | (with_reducible apply sE); rfl); conv => arg 3; whnf)
    subst hP
    exact sat_ret ⟨rfl, rfl⟩
  have h1 : ¬ client < 1 := by simpa using h1
  (conv => arg 3; whnf); repeat ((first | (with_reducible apply sT); rfl | (with_reducible apply sF); rfl | (with_reducible apply sE); rfl); conv => arg 3; whnf)
  refine sat_br (fun h2 => ?_) (fun h2 => ?_)
  · have h2 : client > 4 := by simpa using h2
    rw [if_pos (.inr (.inl h2))] at hP
    (conv => arg 3; whnf); repeat ((first | (with_reducible apply sT); rfl | (with_reducible apply sF); rfl | (with_reducible apply sE); rfl); conv => arg 3; whnf)
    subst hP
    exact sat_ret ⟨rfl, rfl⟩
  have h2 : ¬ client > 4 := by simpa using h2
  (conv => arg 3; whnf); repeat ((first | (with_reducible apply sT); rfl | (with_reducible apply sF); rfl | (with_reducible apply sE); rfl); conv => arg 3; whnf)
  refine sat_br (fun h3 => ?_) (fun h3 => ?_)
  · have h3 : seq < 1 := by simpa using h3
    rw [if_pos (.inr (.inr h3))] at hP
    (conv => arg 3; whnf); repeat ((first | (with_reducible apply sT); rfl | (with_reducible apply sF); rfl | (with_reducible apply sE); rfl); conv => arg 3; whnf)
    subst hP
    exact sat_ret ⟨rfl, rfl⟩
  have h3 : ¬ seq < 1 := by simpa using h3
  rw [if_neg (by omega)] at hP
  have h4 : client = 1 ∨ client = 2 ∨ client = 3 ∨ client = 4 := by omega
  rcases h4 with rfl | rfl | rfl | rfl
  all_goals
    (conv => arg 3; whnf); repeat ((first | (with_reducible apply sT); rfl | (with_reducible apply sF); rfl | (with_reducible apply sE); rfl); conv => arg 3; whnf)
    refine sat_rng (wrap64 (by omega) (by omega)) ?_
    (conv => arg 3; whnf); repeat ((first | (with_reducible apply sT); rfl | (with_reducible apply sF); rfl | (with_reducible apply sE); rfl); conv => arg 3; whnf)
    refine sat_asrt (by decide) ?_
    (conv => arg 3; whnf); repeat ((first | (with_reducible apply sT); rfl | (with_reducible apply sF); rfl | (with_reducible apply sE); rfl); conv => arg 3; whnf)
    refine sat_br (fun h5 => ?_) (fun h5 => ?_)
    · rw [if_pos (by simpa [Lg.q] using h5)] at hP
      (conv => arg 3; whnf); repeat ((first | (with_reducible apply sT); rfl | (with_reducible apply sF); rfl | (with_reducible apply sE); rfl); conv => arg 3; whnf)
      subst hP
      exact sat_ret ⟨rfl, rfl⟩
    · rw [if_neg (by simpa [Lg.q] using h5)] at hP
      (conv => arg 3; whnf); repeat ((first | (with_reducible apply sT); rfl | (with_reducible apply sF); rfl | (with_reducible apply sE); rfl); conv => arg 3; whnf)
      refine sat_br (fun h6 => ?_) (fun h6 => ?_)
      · rw [if_pos (by simpa [Lg.q] using h6)] at hP
        (conv => arg 3; whnf); repeat ((first | (with_reducible apply sT); rfl | (with_reducible apply sF); rfl | (with_reducible apply sE); rfl); conv => arg 3; whnf)
        refine sat_call kd ?_
        rintro r H' ⟨rfl, rfl⟩
        (conv => arg 3; whnf); repeat ((first | (with_reducible apply sT); rfl | (with_reducible apply sF); rfl | (with_reducible apply sE); rfl); conv => arg 3; whnf)
        subst hP
        exact sat_ret ⟨rfl, rfl⟩
      · rw [if_neg (by simpa [Lg.q] using h6)] at hP
        (conv => arg 3; whnf); repeat ((first | (with_reducible apply sT); rfl | (with_reducible apply sF); rfl | (with_reducible apply sE); rfl); conv => arg 3; whnf)
        subst hP
        exact sat_ret ⟨rfl, rfl⟩
theorem k_once2 (l : Lg) (hl : l.OK) (c : Cm) (hc : c.OK) : ACalls PP GG F.ledger_Ledger_once [pt 0, c.l, .fn F.ledger_Ledger_Apply_2 [] [pt 3, pt 4]] (l.H3 c) fun r H' => r = (l.once c (l.propose c.hash)).2.a ∧ H' = (l.once c (l.propose c.hash)).1.D3 c := by
  have kd := k_do2 l hl c hc
  obtain ⟨_, _, c3, c4, _, _, _⟩ := hc
  generalize hF : l.propose c.hash = P at *
  generalize hP : l.once c P = R
  unfold Lg.once at hP
  obtain ⟨⟨n', im', eps', q1', q2', q3', q4'⟩, r'⟩ := P
  obtain ⟨nodes, im, eps, q1, q2, q3, q4⟩ := l
  obtain ⟨kind, client, seq, node, epoch, yes, hash, data⟩ := c
  dsimp only [Lg.H, Lg.D, Lg.v, Cm.l, Lg.H2, Lg.D2, Lg.H3, Lg.D3, Rp.a] at *
  refine K.ledger_Ledger_once.callsC rfl ?_
  (conv => arg 3; whnf); repeat ((first | (with_reducible apply sT); rfl | (with_reducible apply sF); rfl | (with_reducible apply sE); rfl); conv => arg 3; whnf)
  refine sat_br (fun h1 => ?_) (fun h1 => ?_)
  · have h1 : client < 1 := by simpa using h1
    rw [if_pos (.inl h1)] at hP
    (conv => arg 3; whnf); repeat ((first | (with_reducible apply sT); rfl | (with_reducible apply sF); rfl | (with_reducible apply sE); rfl); conv => arg 3; whnf)
    subst hP
    exact sat_ret ⟨rfl, rfl⟩
  have h1 : ¬ client < 1 := by simpa using h1
  (conv => arg 3; whnf); repeat ((first | (with_reducible apply sT); rfl | (with_reducible apply sF); rfl | (with_reducible apply sE); rfl); conv => arg 3; whnf)
  refine sat_br (fun h2 => ?_) (fun h2 => ?_)
  · have h2 : client > 4 := by simpa using h2
    rw [if_pos (.inr (.inl h2))] at hP
    (conv => arg 3; whnf); repeat ((first | (with_reducible apply sT); rfl | (with_reducible apply sF); rfl | (with_reducible apply sE); rfl); conv => arg 3; whnf)
    subst hP
    exact sat_ret ⟨rfl, rfl⟩
  have h2 : ¬ client > 4 := by simpa using h2
  (conv => arg 3; whnf); repeat ((first | (with_reducible apply sT); rfl | (with_reducible apply sF); rfl | (with_reducible apply sE); rfl); conv => arg 3; whnf)
  refine sat_br (fun h3 => ?_) (fun h3 => ?_)
  · have h3 : seq < 1 := by simpa using h3
    rw [if_pos (.inr (.inr h3))] at hP
    (conv => arg 3; whnf); repeat ((first | (with_reducible apply sT); rfl | (with_reducible apply sF); rfl | (with_reducible apply sE); rfl); conv => arg 3; whnf)
    subst hP
    exact sat_ret ⟨rfl, rfl⟩
  have h3 : ¬ seq < 1 := by simpa using h3
  rw [if_neg (by omega)] at hP
  have h4 : client = 1 ∨ client = 2 ∨ client = 3 ∨ client = 4 := by omega
  rcases h4 with rfl | rfl | rfl | rfl
  all_goals
    (conv => arg 3; whnf); repeat ((first | (with_reducible apply sT); rfl | (with_reducible apply sF); rfl | (with_reducible apply sE); rfl); conv => arg 3; whnf)
    refine sat_rng (wrap64 (by omega) (by omega)) ?_
    (conv => arg 3; whnf); repeat ((first | (with_reducible apply sT); rfl | (with_reducible apply sF); rfl | (with_reducible apply sE); rfl); conv => arg 3; whnf)
    refine sat_asrt (by decide) ?_
    (conv => arg 3; whnf); repeat ((first | (with_reducible apply sT); rfl | (with_reducible apply sF); rfl | (with_reducible apply sE); rfl); conv => arg 3; whnf)
    refine sat_br (fun h5 => ?_) (fun h5 => ?_)
    · rw [if_pos (by simpa [Lg.q] using h5)] at hP
      (conv => arg 3; whnf); repeat ((first | (with_reducible apply sT); rfl | (with_reducible apply sF); rfl | (with_reducible apply sE); rfl); conv => arg 3; whnf)
      subst hP
      exact sat_ret ⟨rfl, rfl⟩
    · rw [if_neg (by simpa [Lg.q] using h5)] at hP
      (conv => arg 3; whnf); repeat ((first | (with_reducible apply sT); rfl | (with_reducible apply sF); rfl | (with_reducible apply sE); rfl); conv => arg 3; whnf)
      refine sat_br (fun h6 => ?_) (fun h6 => ?_)
      · rw [if_pos (by simpa [Lg.q] using h6)] at hP
        (conv => arg 3; whnf); repeat ((first | (with_reducible apply sT); rfl | (with_reducible apply sF); rfl | (with_reducible apply sE); rfl); conv => arg 3; whnf)
        refine sat_call kd ?_
        rintro r H' ⟨rfl, rfl⟩
        (conv => arg 3; whnf); repeat ((first | (with_reducible apply sT); rfl | (with_reducible apply sF); rfl | (with_reducible apply sE); rfl); conv => arg 3; whnf)
        subst hP
        exact sat_ret ⟨rfl, rfl⟩
      · rw [if_neg (by simpa [Lg.q] using h6)] at hP
        (conv => arg 3; whnf); repeat ((first | (with_reducible apply sT); rfl | (with_reducible apply sF); rfl | (with_reducible apply sE); rfl); conv => arg 3; whnf)
        subst hP
        exact sat_ret ⟨rfl, rfl⟩
def Lg.apply (l : Lg) (c : Cm) : Lg × Rp :=
  if c.kind = 0 then (l, ⟨0, 0, zh⟩) else if c.kind = 1 then l.once c (l.store c.data) else if c.kind = 2 then l.once c (l.propose c.hash) else if c.kind = 3 then l.ack c else (l, ⟨1, 0, zh⟩)
theorem k_apply (l : Lg) (hl : l.OK) (c : Cm) (hc : c.OK) : ACalls PP GG F.ledger_Ledger_Apply [pt 0, c.l] l.H fun r H' => r = (l.apply c).2.a ∧ H' = (l.apply c).1.D := by
  have km := k_made l hl.hn.1
  have k1 := k_once1 l hl c hc
  have k2 := k_once2 l hl c hc
  have k3 := k_ack l hl c hc
  generalize hP : l.apply c = R
  unfold Lg.apply at hP
  generalize l.once c (l.store c.data) = P1 at *
  generalize l.once c (l.propose c.hash) = P2 at *
  generalize l.ack c = P3 at *
  obtain ⟨⟨n1, im1, eps1, a1, a2, a3, a4⟩, r1⟩ := P1
  obtain ⟨⟨n2, im2, eps2, b1, b2, b3, b4⟩, r2⟩ := P2
  obtain ⟨⟨n3, im3, eps3, d1, d2, d3, d4⟩, r3⟩ := P3
  obtain ⟨nodes, im, eps, q1, q2, q3, q4⟩ := l
  obtain ⟨kind, client, seq, node, epoch, yes, hash, data⟩ := c
  dsimp only [Lg.H, Lg.D, Lg.v, Cm.l, Lg.H3, Lg.D3, Rp.a] at *
  refine K.ledger_Ledger_Apply.callsC rfl ?_
  (conv => arg 3; whnf); repeat ((first | (with_reducible apply sT); rfl | (with_reducible apply sF); rfl | (with_reducible apply sE); rfl); conv => arg 3; whnf)
  refine sat_call km ?_
  rintro r H' ⟨rfl, rfl⟩
  (conv => arg 3; whnf); repeat ((first | (with_reducible apply sT); rfl | (with_reducible apply sF); rfl | (with_reducible apply sE); rfl); conv => arg 3; whnf)
  refine sat_br (fun h1 => ?_) (fun h1 => ?_)
  · rw [if_pos (by simpa using h1)] at hP
    (conv => arg 3; whnf); repeat ((first | (with_reducible apply sT); rfl | (with_reducible apply sF); rfl | (with_reducible apply sE); rfl); conv => arg 3; whnf)
    subst hP
    exact sat_ret ⟨rfl, rfl⟩
  rw [if_neg (by simpa using h1)] at hP
  (conv => arg 3; whnf); repeat ((first | (with_reducible apply sT); rfl | (with_reducible apply sF); rfl | (with_reducible apply sE); rfl); conv => arg 3; whnf)
  refine sat_br (fun h1 => ?_) (fun h1 => ?_)
  · rw [if_pos (by simpa using h1)] at hP
    (conv => arg 3; whnf); repeat ((first | (with_reducible apply sT); rfl | (with_reducible apply sF); rfl | (with_reducible apply sE); rfl); conv => arg 3; whnf)
    refine sat_call k1 ?_
    rintro r H' ⟨rfl, rfl⟩
    (conv => arg 3; whnf); repeat ((first | (with_reducible apply sT); rfl | (with_reducible apply sF); rfl | (with_reducible apply sE); rfl); conv => arg 3; whnf)
    subst hP
    exact sat_ret ⟨rfl, rfl⟩
  rw [if_neg (by simpa using h1)] at hP
  (conv => arg 3; whnf); repeat ((first | (with_reducible apply sT); rfl | (with_reducible apply sF); rfl | (with_reducible apply sE); rfl); conv => arg 3; whnf)
  refine sat_br (fun h1 => ?_) (fun h1 => ?_)
  · rw [if_pos (by simpa using h1)] at hP
    (conv => arg 3; whnf); repeat ((first | (with_reducible apply sT); rfl | (with_reducible apply sF); rfl | (with_reducible apply sE); rfl); conv => arg 3; whnf)
    refine sat_call k2 ?_
    rintro r H' ⟨rfl, rfl⟩
    (conv => arg 3; whnf); repeat ((first | (with_reducible apply sT); rfl | (with_reducible apply sF); rfl | (with_reducible apply sE); rfl); conv => arg 3; whnf)
    subst hP
    exact sat_ret ⟨rfl, rfl⟩
  rw [if_neg (by simpa using h1)] at hP
  (conv => arg 3; whnf); repeat ((first | (with_reducible apply sT); rfl | (with_reducible apply sF); rfl | (with_reducible apply sE); rfl); conv => arg 3; whnf)
  refine sat_br (fun h1 => ?_) (fun h1 => ?_)
  · rw [if_pos (by simpa using h1)] at hP
    (conv => arg 3; whnf); repeat ((first | (with_reducible apply sT); rfl | (with_reducible apply sF); rfl | (with_reducible apply sE); rfl); conv => arg 3; whnf)
    refine sat_call k3 ?_
    rintro r H' ⟨rfl, rfl⟩
    (conv => arg 3; whnf); repeat ((first | (with_reducible apply sT); rfl | (with_reducible apply sF); rfl | (with_reducible apply sE); rfl); conv => arg 3; whnf)
    subst hP
    exact sat_ret ⟨rfl, rfl⟩
  rw [if_neg (by simpa using h1)] at hP
  (conv => arg 3; whnf); repeat ((first | (with_reducible apply sT); rfl | (with_reducible apply sF); rfl | (with_reducible apply sE); rfl); conv => arg 3; whnf)
  subst hP
  exact sat_ret ⟨rfl, rfl⟩
end Stk
end

section
/- The ledger: what it tells; a new one. -/
namespace Stk
open Go
set_option maxRecDepth 100000
set_option linter.unusedSimpArgs false
set_option linter.unusedVariables false
set_option maxHeartbeats 4000000
theorem k_eclone (L : List Tr) (h : L.length ≤ 2 ^ 20) : ACalls PP GG F.slices_Clone_ledger_Epoch_ledger_Epoch [.bz 37 L] [] fun r H' => r = .sl 0 0 [] 0 L.length none ∧ H' = [.row 37 L] := by
  refine K.slices_Clone_ledger_Epoch_ledger_Epoch.callsC rfl ?_
  (conv => arg 3; whnf); repeat ((first | (with_reducible apply sT); rfl | (with_reducible apply sF); rfl | (with_reducible apply sE); rfl); conv => arg 3; whnf)
  refine sat_br (fun h1 => ?_) (fun h1 => ?_)
  · have : L = [] := by simpa using h1
    subst this
    refine sat_any ?_ ?_
    · (conv => arg 3; whnf); repeat ((first | (with_reducible apply sT); rfl | (with_reducible apply sF); rfl | (with_reducible apply sE); rfl); conv => arg 3; whnf)
      exact sat_ret ⟨rfl, rfl⟩
    · (conv => arg 3; whnf); repeat ((first | (with_reducible apply sT); rfl | (with_reducible apply sF); rfl | (with_reducible apply sE); rfl); conv => arg 3; whnf)
      refine sat_asrt (by decide) ?_
      (conv => arg 3; whnf); repeat ((first | (with_reducible apply sT); rfl | (with_reducible apply sF); rfl | (with_reducible apply sE); rfl); conv => arg 3; whnf)
      exact sat_ret ⟨rfl, rfl⟩
  · (conv => arg 3; whnf); repeat ((first | (with_reducible apply sT); rfl | (with_reducible apply sF); rfl | (with_reducible apply sE); rfl); conv => arg 3; whnf)
    refine sat_asrt (by simp [roomy]; omega) ?_
    (conv => arg 3; whnf); repeat ((first | (with_reducible apply sT); rfl | (with_reducible apply sF); rfl | (with_reducible apply sE); rfl); conv => arg 3; whnf)
    exact sat_ret ⟨rfl, rfl⟩
theorem k_epochs (l : Lg) (hl : l.OK) : ACalls PP GG F.ledger_Ledger_Epochs [pt 0] l.H fun r H' => r = .sl 4 0 [] 0 l.eps.length none ∧ H' = l.D ++ [.row 37 (l.eps.map Ep.t)] := by
  have km := k_made l hl.hn.1
  obtain ⟨hn, he, hk, hy⟩ := hl
  obtain ⟨nodes, im, eps, q1, q2, q3, q4⟩ := l
  dsimp only [Lg.H, Lg.D, Lg.v] at *
  refine K.ledger_Ledger_Epochs.callsC rfl ?_
  (conv => arg 3; whnf); repeat ((first | (with_reducible apply sT); rfl | (with_reducible apply sF); rfl | (with_reducible apply sE); rfl); conv => arg 3; whnf)
  refine sat_call km ?_
  rintro r H' ⟨rfl, rfl⟩
  (conv => arg 3; whnf); repeat ((first | (with_reducible apply sT); rfl | (with_reducible apply sF); rfl | (with_reducible apply sE); rfl); conv => arg 3; whnf)
  rw [show List.take eps.length (List.drop 0 (eps.map Ep.t)) = eps.map Ep.t by rw [List.drop_zero, List.take_of_length_le (by simp)]]
  refine sat_call (k_eclone (eps.map Ep.t) (by simp; omega)) ?_
  rintro r H' ⟨rfl, rfl⟩
  (conv => arg 3; whnf); repeat ((first | (with_reducible apply sT); rfl | (with_reducible apply sF); rfl | (with_reducible apply sE); rfl); conv => arg 3; whnf)
  refine sat_ret ⟨?_, rfl⟩
  rw [List.length_map]
theorem k_image (l : Lg) (hl : l.OK) (h : List Tr) (hh : Tr.fits (.arr 32 h) hSh = true) (hd : ∀ p ∈ l.im, p.2.length ≤ 2 ^ 40) : ACalls PP GG F.ledger_Ledger_Image [pt 0, .t (.arr 32 h)] l.H fun r H' =>
    r = .tup [.sl 4 0 [] 0 ((findI h l.im).getD []).length none, tb (findI h l.im).isSome] ∧ H' = l.D ++ [.row 1 ((findI h l.im).getD [])] := by
  have km := k_made l hl.hn.1
  obtain ⟨hn, he, hk, hy⟩ := hl
  obtain ⟨nodes, im, eps, q1, q2, q3, q4⟩ := l
  dsimp only [Lg.H, Lg.D, Lg.v] at *
  refine K.ledger_Ledger_Image.callsC rfl ?_
  (conv => arg 3; whnf); repeat ((first | (with_reducible apply sT); rfl | (with_reducible apply sF); rfl | (with_reducible apply sE); rfl); conv => arg 3; whnf)
  refine sat_call km ?_
  rintro r H' ⟨rfl, rfl⟩
  (conv => arg 3; whnf); repeat ((first | (with_reducible apply sT); rfl | (with_reducible apply sF); rfl | (with_reducible apply sE); rfl); conv => arg 3; whnf)
  refine sat_asrt (fitsKeys hh hk) ?_
  rw [mfind_imT]
  cases hm : findI h im with
  | none =>
    (conv => arg 3; whnf); repeat ((first | (with_reducible apply sT); rfl | (with_reducible apply sF); rfl | (with_reducible apply sE); rfl); conv => arg 3; whnf)
    refine sat_call (k_bclone [] (by decide)) ?_
    rintro r H' ⟨rfl, rfl⟩
    (conv => arg 3; whnf); repeat ((first | (with_reducible apply sT); rfl | (with_reducible apply sF); rfl | (with_reducible apply sE); rfl); conv => arg 3; whnf)
    exact sat_ret ⟨rfl, rfl⟩
  | some d =>
    obtain ⟨p, hp, rfl⟩ := findI_mem hm
    (conv => arg 3; whnf); repeat ((first | (with_reducible apply sT); rfl | (with_reducible apply sF); rfl | (with_reducible apply sE); rfl); conv => arg 3; whnf)
    refine sat_call (k_bclone p.2 (by have := hd p hp; omega)) ?_
    rintro r H' ⟨rfl, rfl⟩
    (conv => arg 3; whnf); repeat ((first | (with_reducible apply sT); rfl | (with_reducible apply sF); rfl | (with_reducible apply sE); rfl); conv => arg 3; whnf)
    exact sat_ret ⟨rfl, rfl⟩
abbrev rq0 : Rq := ⟨0, ⟨0, 0, zh⟩⟩
def Lg.new (n : Int) : Lg := ⟨n, [], [], rq0, rq0, rq0, rq0⟩
theorem k_new_l (n : Int) (h : 1 ≤ n ∧ n ≤ 4) : ACalls PP GG F.ledger_New [ti n] [] fun r H' => r = .tup [pt 0, ti 0] ∧ H' = (Lg.new n).H := by
  refine K.ledger_New.callsC rfl ?_
  (conv => arg 3; whnf); repeat ((first | (with_reducible apply sT); rfl | (with_reducible apply sF); rfl | (with_reducible apply sE); rfl); conv => arg 3; whnf)
  refine sat_brF (decide_eq_false (by omega)) ?_
  (conv => arg 3; whnf); repeat ((first | (with_reducible apply sT); rfl | (with_reducible apply sF); rfl | (with_reducible apply sE); rfl); conv => arg 3; whnf)
  refine sat_brF (decide_eq_false (by omega)) ?_
  (conv => arg 3; whnf); repeat ((first | (with_reducible apply sT); rfl | (with_reducible apply sF); rfl | (with_reducible apply sE); rfl); conv => arg 3; whnf)
  exact sat_ret ⟨rfl, rfl⟩
end Stk
end

section
/- The plain law of a ledger's epochs. -/
namespace Stk
open Go
set_option maxRecDepth 100000
set_option linter.unusedSimpArgs false
set_option linter.unusedVariables false
set_option maxHeartbeats 4000000
structure LInv (l : Lg) : Prop where
  ok : l.OK
  ph : ∀ (j : Nat) e, l.eps[j]? = some e → 1 ≤ e.phase ∧ e.phase ≤ 3 ∧ (e.phase = 1 → j + 1 = l.eps.length)
  im : ∀ e ∈ l.eps, (findI e.hash l.im).isSome = true
  hf : ∀ e ∈ l.eps, Tr.fits (.arr 32 e.hash) hSh = true
  hd : ∀ p ∈ l.im, p.2.length ≤ 2 ^ 40
/-- What epochs become. -/
structure Nxt (A B : List Ep) : Prop where
  len : A.length ≤ B.length ∧ B.length ≤ A.length + 1
  old : ∀ (j : Nat) a, A[j]? = some a → ∃ b, B[j]? = some b ∧ b.hash = a.hash ∧ (b.phase = a.phase ∨ a.phase = 1)
theorem Nxt.refl (A : List Ep) : Nxt A A := ⟨by omega, fun j a h => ⟨a, h, rfl, .inl rfl⟩⟩
/-- What a call makes of a ledger. -/
structure LStep (l l' : Lg) : Prop where
  inv : LInv l'
  nxt : Nxt l.eps l'.eps
  nodes : l'.nodes = l.nodes
theorem LStep.refl {l : Lg} (h : LInv l) : LStep l l := ⟨h, Nxt.refl _, rfl⟩
theorem LInv.same {l l' : Lg} (h : LInv l) (h1 : l'.nodes = l.nodes) (h2 : l'.im = l.im) (h3 : l'.eps = l.eps) : LInv l' := by
  obtain ⟨⟨a, b, c, d⟩, e, f, g, i⟩ := h
  exact ⟨⟨by rw [h1]; exact a, by rw [h3]; exact b, by rw [h2]; exact c, by rw [h3]; exact d⟩, by rw [h3]; exact e, by rw [h3, h2]; exact f, by rw [h3]; exact g, by rw [h2]; exact i⟩
theorem setq_same (l : Lg) (k : Int) (x : Rq) : (l.setq k x).nodes = l.nodes ∧ (l.setq k x).im = l.im ∧ (l.setq k x).eps = l.eps := by
  unfold Lg.setq
  split
  · exact ⟨rfl, rfl, rfl⟩
  · split
    · exact ⟨rfl, rfl, rfl⟩
    · split <;> exact ⟨rfl, rfl, rfl⟩
theorem LStep.setq {l l' : Lg} (h : LStep l l') (k : Int) (x : Rq) : LStep l (l'.setq k x) := by
  obtain ⟨h1, h2, h3⟩ := setq_same l' k x
  exact ⟨h.inv.same h1 h2 h3, by rw [h3]; exact h.nxt, by rw [h1]; exact h.nodes⟩
theorem LStep.once {l : Lg} (hl : LInv l) {f : Lg × Rp} (h : LStep l f.1) (c : Cm) : LStep l (l.once c f).1 := by
  unfold Lg.once
  split
  · exact LStep.refl hl
  · split
    · exact LStep.refl hl
    · split
      · exact h.setq _ _
      · exact LStep.refl hl
theorem putI_mem {h v : List Tr} : ∀ {im : List (List Tr × List Tr)} {p : List Tr × List Tr}, p ∈ putI h v im → p ∈ im ∨ p = (h, v)
  | [], p, hp => by simp [putI] at hp; exact .inr hp
  | (a, d) :: r, p, hp => by
    simp only [putI] at hp
    split at hp
    · rcases List.mem_cons.1 hp with rfl | hp
      · exact .inr rfl
      · exact .inl (by simp [hp])
    · rcases List.mem_cons.1 hp with rfl | hp
      · exact .inl (by simp)
      · rcases putI_mem hp with h | h
        · exact .inl (by simp [h])
        · exact .inr h
/-- Digests that are the same. -/
theorem eqbs_fits {s : Sh} (hs : s = .int .u8) : ∀ {a b : List Tr}, Tr.fitsa a s = true → Tr.fitsa b s = true → Tr.eqbs a b = true → a = b
  | [], [], _, _, _ => rfl
  | [], _ :: _, _, _, h => by simp [Tr.eqbs] at h
  | _ :: _, [], _, _, h => by simp [Tr.eqbs] at h
  | x :: a, y :: b, ha, hb, h => by
    simp only [Tr.fitsa, Tr.eqbs, Bool.and_eq_true] at ha hb h
    subst hs
    rw [eqbs_fits rfl ha.2 hb.2 h.2]
    have hx := ha.1; have hy := hb.1; have hxy := h.1
    cases x <;> simp [Tr.fits] at hx
    cases y <;> simp [Tr.fits] at hy
    rw [kindEq_eq hx, kindEq_eq hy]
    simp [Tr.eqb] at hxy
    rw [hxy]
theorem hash_eq {a b : List Tr} (ha : Tr.fits (.arr 32 a) hSh = true) (hb : Tr.fits (.arr 32 b) hSh = true) (h : Tr.eqbs a b = true) : a = b := by
  simp only [Tr.fits, Bool.and_eq_true] at ha hb
  exact eqbs_fits rfl ha.2 hb.2 h
theorem eqbs_self {s : Sh} (hs : s = .int .u8) : ∀ {a : List Tr}, Tr.fitsa a s = true → Tr.eqbs a a = true
  | [], _ => rfl
  | x :: a, h => by
    subst hs
    simp only [Tr.fitsa, Bool.and_eq_true] at h
    have hx := h.1
    cases x <;> simp [Tr.fits] at hx
    simp [Tr.eqbs, Tr.eqb, eqbs_self rfl h.2]
theorem findI_put {k h v : List Tr} : ∀ {im : List (List Tr × List Tr)}, (∀ p ∈ im, Tr.fits (.arr 32 p.1) hSh = true) → Tr.fits (.arr 32 h) hSh = true → (findI k im).isSome = true → (findI k (putI h v im)).isSome = true
  | [], _, _, e => by simp [findI] at e
  | (a, d) :: r, hk, hh, e => by
    simp only [putI]
    split
    · rename_i he
      have : h = a := hash_eq hh (hk (a, d) (by simp)) he
      subst this
      simp only [findI] at e ⊢
      split
      · rfl
      · rename_i hn; rw [if_neg hn] at e; exact e
    · simp only [findI] at e ⊢
      split
      · rfl
      · rename_i hn
        rw [if_neg hn] at e
        exact findI_put (fun p hp => hk p (by simp [hp])) hh e
theorem LStep.store {l : Lg} (hl : LInv l) {L : List Tr} (hb : AllB L) (hL : L.length ≤ 2 ^ 40) : LStep l (l.store L).1 := by
  unfold Lg.store
  split
  · exact LStep.refl hl
  · split
    · split <;> exact LStep.refl hl
    · split
      · exact LStep.refl hl
      · obtain ⟨⟨a, b, c, d⟩, e, f, g, i⟩ := hl
        refine ⟨⟨⟨a, b, fun p hp => ?_, d⟩, e, fun x hx => findI_put (fun p hp => (c p hp).1) (sha_fits L) (f x hx), g, fun p hp => ?_⟩, Nxt.refl _, rfl⟩
        · rcases putI_mem hp with h | rfl
          · exact c p h
          · exact ⟨sha_fits L, hb⟩
        · rcases putI_mem hp with h | rfl
          · exact i p h
          · exact hL
theorem lastE_zero {p : Int} {L : List Ep} : ∀ {n : Nat}, lastE p L n = 0 → ∀ (j : Nat) e, j < n → L[j]? = some e → e.phase ≠ p
  | 0, _, j, e, hj, _ => by omega
  | n + 1, h, j, e, hj, he => by
    simp only [lastE] at h
    cases hn : L[n]? with
    | none =>
      rw [hn] at h
      rcases Nat.lt_or_ge j n with h1 | h1
      · exact lastE_zero h j e h1 he
      · obtain rfl : j = n := by omega
        rw [hn] at he; cases he
    | some x =>
      rw [hn] at h
      simp only at h
      split at h
      · cases h
      · rename_i hx
        rcases Nat.lt_or_ge j n with h1 | h1
        · exact lastE_zero h j e h1 he
        · obtain rfl : j = n := by omega
          rw [hn] at he; obtain rfl := Option.some.inj he; exact hx
theorem LStep.propose {l : Lg} (hl : LInv l) {h : List Tr} (hh : Tr.fits (.arr 32 h) hSh = true) : LStep l (l.propose h).1 := by
  unfold Lg.propose
  split
  · exact LStep.refl hl
  · rename_i hsome
    split
    · exact LStep.refl hl
    · rename_i hpend
      split
      · exact LStep.refl hl
      · rename_i hlen
        obtain ⟨⟨a, b, c, d⟩, e, f, g, i⟩ := hl
        have hz : lastE 1 l.eps l.eps.length = 0 := by omega
        have mem : ∀ x ∈ l.eps ++ [(⟨h, 1, [false, false, false, false]⟩ : Ep)], x ∈ l.eps ∨ x = ⟨h, 1, [false, false, false, false]⟩ := fun x hx => by simpa using hx
        refine ⟨⟨⟨a, by simp; omega, c, fun x hx => ?_⟩, fun j x hj => ?_, fun x hx => ?_, fun x hx => ?_, i⟩, ⟨by simp, fun j x hj => ⟨x, by rw [List.getElem?_append_left (List.getElem?_eq_some_iff.1 hj).1]; exact hj, rfl, .inl rfl⟩⟩, rfl⟩
        · rcases mem x hx with hx | rfl
          · exact d x hx
          · rfl
        · dsimp only at hj ⊢
          rcases Nat.lt_or_ge j l.eps.length with hlt | hge
          · rw [List.getElem?_append_left hlt] at hj
            obtain ⟨h1, h2, h3⟩ := e j x hj
            refine ⟨h1, h2, fun hx => absurd hx (lastE_zero hz j x hlt hj)⟩
          · rw [List.getElem?_append_right hge] at hj
            have : j - l.eps.length = 0 := by
              rcases Nat.eq_zero_or_pos (j - l.eps.length) with h0 | h0
              · exact h0
              · rw [List.getElem?_singleton, if_neg (by omega)] at hj; cases hj
            rw [this] at hj
            obtain rfl := Option.some.inj hj
            simp; omega
        · rcases mem x hx with hx | rfl
          · exact f x hx
          · cases hf : findI h l.im with
            | none => rw [hf] at hsome; simp at hsome
            | some y => rfl
        · rcases mem x hx with hx | rfl
          · exact g x hx
          · exact hh
theorem LStep.ack {l : Lg} (hl : LInv l) (c : Cm) : LStep l (l.ack c).1 := by
  unfold Lg.ack
  split
  · exact LStep.refl hl
  · split
    · exact LStep.refl hl
    · split
      · rename_i u hu
        unfold Lg.ack1
        split
        · exact LStep.refl hl
        · rename_i hp1
          have hp1 : u.phase = 1 := by omega
          have key : ∀ x : Ep, x.hash = u.hash → 1 ≤ x.phase → x.phase ≤ 3 → x.yes.length = 4 → LStep l { l with eps := l.eps.set (c.epoch - 1).toNat x } := by
            intro x hxh hx1 hx3 hxy
            obtain ⟨⟨a, b, c', d⟩, e, f, g, i⟩ := hl
            have hum : u ∈ l.eps := List.mem_of_getElem? hu
            have mem : ∀ y ∈ l.eps.set (c.epoch - 1).toNat x, y ∈ l.eps ∨ y = x := fun y hy => List.mem_or_eq_of_mem_set hy
            refine ⟨⟨⟨a, by simpa using b, c', fun y hy => ?_⟩, fun j y hj => ?_, fun y hy => ?_, fun y hy => ?_, i⟩, ⟨by simp, fun j y hj => ?_⟩, rfl⟩
            · rcases mem y hy with hy | rfl
              · exact d y hy
              · exact hxy
            · dsimp only at hj ⊢
              rw [List.getElem?_set] at hj
              rw [List.length_set]
              split at hj
              · rename_i hjj
                subst hjj
                split at hj
                · obtain rfl := Option.some.inj hj
                  exact ⟨hx1, hx3, fun _ => (e _ u hu).2.2 hp1⟩
                · cases hj
              · exact e j y hj
            · rcases mem y hy with hy | rfl
              · exact f y hy
              · rw [hxh]; exact f u hum
            · rcases mem y hy with hy | rfl
              · exact g y hy
              · rw [hxh]; exact g u hum
            · dsimp only
              by_cases hjj : (c.epoch - 1).toNat = j
              · subst hjj
                rw [hu] at hj
                obtain rfl := Option.some.inj hj
                exact ⟨x, by rw [List.getElem?_set_self (List.getElem?_eq_some_iff.1 hu).1], hxh, .inr hp1⟩
              · exact ⟨y, by rw [List.getElem?_set_ne hjj]; exact hj, rfl, .inl rfl⟩
          have huy := hl.ok.hy u (List.mem_of_getElem? hu)
          split
          · exact key ⟨u.hash, 3, u.yes⟩ rfl (show (1 : Int) ≤ 3 by decide) (show (3 : Int) ≤ 3 by decide) huy
          · refine key _ rfl ?_ ?_ (by simpa using huy)
            · dsimp only; split <;> decide
            · dsimp only; split <;> decide
      · exact LStep.refl hl
theorem LStep.apply {l : Lg} (hl : LInv l) {c : Cm} (hc : c.OK) : LStep l (l.apply c).1 := by
  unfold Lg.apply
  split
  · exact LStep.refl hl
  · split
    · exact LStep.once hl (LStep.store hl hc.hb hc.hl) c
    · split
      · exact LStep.once hl (LStep.propose hl hc.hh) c
      · split
        · exact LStep.ack hl c
        · exact LStep.refl hl
theorem LInv.new {n : Int} (h : 1 ≤ n ∧ n ≤ 4) : LInv (Lg.new n) :=
  ⟨⟨⟨by show 0 < n; omega, h.2⟩, by simp [Lg.new], fun p hp => by simp [Lg.new] at hp, fun e he => by simp [Lg.new] at he⟩, fun j e he => by simp [Lg.new] at he, fun e he => by simp [Lg.new] at he, fun e he => by simp [Lg.new] at he, fun p hp => by simp [Lg.new] at hp⟩
/-- The pending epoch is the last one, or there is none. -/
theorem LInv.pending {l : Lg} (hl : LInv l) : lastE 1 l.eps l.eps.length = (match l.eps[l.eps.length - 1]? with
    | some e => if e.phase = 1 then l.eps.length else 0
    | none => 0) := by
  cases hn : l.eps.length with
  | zero =>
    have : l.eps = [] := List.length_eq_zero_iff.1 hn
    rw [this]; rfl
  | succ n =>
    have hu : l.eps[n]? = some l.eps[n] := List.getElem?_eq_getElem (by omega)
    rw [Nat.add_sub_cancel, hu]
    simp only [lastE, hu]
    split
    · rfl
    · have : ∀ m, m ≤ n → lastE 1 l.eps m = 0 := by
        intro m
        induction m with
        | zero => intro _; rfl
        | succ m ih =>
          intro hm
          have hv : l.eps[m]? = some l.eps[m] := List.getElem?_eq_getElem (by omega)
          simp only [lastE, hv]
          rw [if_neg (fun h1 => by have := (hl.ph m _ hv).2.2 h1; omega)]
          exact ih (by omega)
      exact this n (Nat.le_refl _)
end Stk
end

section
/- The plain law of requests that come again. -/
namespace Stk
open Go
set_option maxRecDepth 100000
set_option linter.unusedSimpArgs false
set_option linter.unusedVariables false
set_option maxHeartbeats 4000000
mutual
theorem eqb_self : ∀ {x : Tr} {s : Sh}, x.fits s = true → x.eqb x = true
  | .bool _, s, h => by simp [Tr.eqb]
  | .int _ _, s, h => by simp [Tr.eqb]
  | .str _, s, h => by simp [Tr.eqb]
  | .nilp, s, h => by cases s <;> simp [Tr.fits] at h
  | .nilm, s, h => by cases s <;> simp [Tr.fits] at h
  | .nilf, s, h => by cases s <;> simp [Tr.fits] at h
  | .nili, s, h => by cases s <;> simp [Tr.fits] at h
  | .sl _ _ _, s, h => by cases s <;> simp [Tr.fits] at h
  | .agg xs, s, h => by
    cases s <;> simp [Tr.fits] at h
    simp only [Tr.eqb]; exact eqbs_selfs h
  | .arr n xs, s, h => by
    cases s <;> simp [Tr.fits] at h
    simp only [Tr.eqb]; exact eqbs_selfa h.2
theorem eqbs_selfs : ∀ {xs : List Tr} {ss : List Sh}, Tr.fitss xs ss = true → Tr.eqbs xs xs = true
  | [], _, _ => rfl
  | x :: xs, ss, h => by
    cases ss <;> simp [Tr.fitss] at h
    simp only [Tr.eqbs, eqb_self h.1, eqbs_selfs h.2, Bool.and_self]
theorem eqbs_selfa : ∀ {xs : List Tr} {s : Sh}, Tr.fitsa xs s = true → Tr.eqbs xs xs = true
  | [], _, _ => rfl
  | x :: xs, s, h => by
    simp only [Tr.fitsa, Bool.and_eq_true] at h
    simp only [Tr.eqbs, eqb_self h.1, eqbs_selfa h.2, Bool.and_self]
end
abbrev rpSh : Sh := .agg [.int .i64, .int .i64, .arr 32 (.int .u8)]
abbrev rqSh : Sh := .agg [.int .i64, rpSh]
abbrev HF (h : List Tr) : Prop := Tr.fits (.arr 32 h) hSh = true
theorem rp_fits {x : Rp} (h : HF x.hash) : Tr.fits x.t rpSh = true := by
  have h : Tr.fits (.arr 32 x.hash) (.arr 32 (.int .u8)) = true := h
  simp only [Tr.fits, Tr.fitss, kindEq, Bool.true_and, Bool.and_true] at h ⊢
  exact h
theorem rq_fits {x : Rq} (h : HF x.r.hash) : Tr.fits x.t rqSh = true := by
  have := rp_fits h
  simp only [Tr.fits, Tr.fitss, kindEq, Bool.true_and, Bool.and_true] at this ⊢
  exact this
structure OInv (l : Lg) : Prop where
  inv : LInv l
  dk : (l.im.map Prod.fst).Nodup
  q1 : HF l.q1.r.hash
  q2 : HF l.q2.r.hash
  q3 : HF l.q3.r.hash
  q4 : HF l.q4.r.hash
theorem zh_fits : HF zh := rfl
theorem OInv.q {l : Lg} (h : OInv l) (k : Int) : HF (l.q k).r.hash := by
  unfold Lg.q
  split
  · exact h.q1
  · split
    · exact h.q2
    · split
      · exact h.q3
      · exact h.q4
theorem key_self {h : List Tr} (hh : HF h) : Tr.eqbs h h = true := by
  have hh : Tr.fits (.arr 32 h) (.arr 32 (.int .u8)) = true := hh
  simp only [Tr.fits, Bool.and_eq_true] at hh
  exact eqbs_self rfl hh.2
theorem putI_none {h v : List Tr} : ∀ {im : List (List Tr × List Tr)}, findI h im = none → putI h v im = im ++ [(h, v)]
  | [], _ => rfl
  | (a, d) :: r, e => by
    simp only [findI] at e
    split at e
    · cases e
    · rename_i hn
      simp only [putI, hn, if_false, List.cons_append]
      rw [putI_none e]
      simp
theorem findI_none {h : List Tr} (hh : HF h) : ∀ {im : List (List Tr × List Tr)}, findI h im = none → h ∉ im.map Prod.fst
  | [], _ => by simp
  | (a, d) :: r, e => by
    simp only [findI] at e
    split at e
    · cases e
    · rename_i hn
      have := findI_none hh e
      simp only [List.map_cons, List.mem_cons, not_or]
      refine ⟨fun he => hn ?_, this⟩
      subst he
      exact key_self hh
/-- What of a ledger a request, and its reply, leave as it is: the keys stay apart, the replies are replies. -/
structure OStep (l : Lg) (R : Lg × Rp) : Prop where
  dk : (R.1.im.map Prod.fst).Nodup
  r : HF R.2.hash
  q1 : HF R.1.q1.r.hash
  q2 : HF R.1.q2.r.hash
  q3 : HF R.1.q3.r.hash
  q4 : HF R.1.q4.r.hash
theorem OStep.same {l : Lg} (h : OInv l) {r : Rp} (hr : HF r.hash) : OStep l (l, r) := ⟨h.dk, hr, h.q1, h.q2, h.q3, h.q4⟩
theorem OStep.once {l : Lg} (h : OInv l) {F : Lg × Rp} (hF : OStep l F) (c : Cm) : OStep l (l.once c F) := by
  unfold Lg.once
  split
  · exact OStep.same h zh_fits
  · split
    · exact OStep.same h zh_fits
    · split
      · obtain ⟨a, b, c1, c2, c3, c4⟩ := hF
        unfold Lg.setq
        split
        · exact ⟨a, b, b, c2, c3, c4⟩
        · split
          · exact ⟨a, b, c1, b, c3, c4⟩
          · split
            · exact ⟨a, b, c1, c2, b, c4⟩
            · exact ⟨a, b, c1, c2, c3, b⟩
      · exact OStep.same h (h.q _)
theorem OStep.store {l : Lg} (h : OInv l) (L : List Tr) : OStep l (l.store L) := by
  have hs := sha_fits L
  unfold Lg.store
  split
  · exact OStep.same h zh_fits
  · split
    · split <;> exact OStep.same h hs
    · rename_i hn
      split
      · exact OStep.same h hs
      · refine ⟨?_, hs, h.q1, h.q2, h.q3, h.q4⟩
        dsimp only
        rw [putI_none hn, List.map_append, List.nodup_append]
        refine ⟨h.dk, by simp, fun a ha b hb => ?_⟩
        have := findI_none hs hn
        simp only [List.map_cons, List.map_nil, List.mem_singleton] at hb
        subst hb
        exact fun he => this (he ▸ ha)
theorem OStep.propose {l : Lg} (h : OInv l) (L : List Tr) : OStep l (l.propose L) := by
  unfold Lg.propose
  split
  · exact OStep.same h zh_fits
  · split
    · exact OStep.same h zh_fits
    · split
      · exact OStep.same h zh_fits
      · exact ⟨h.dk, zh_fits, h.q1, h.q2, h.q3, h.q4⟩
theorem OStep.ack {l : Lg} (h : OInv l) (c : Cm) : OStep l (l.ack c) := by
  unfold Lg.ack
  split
  · exact OStep.same h zh_fits
  · split
    · exact OStep.same h zh_fits
    · split
      · unfold Lg.ack1
        split
        · exact OStep.same h zh_fits
        · split
          · exact ⟨h.dk, zh_fits, h.q1, h.q2, h.q3, h.q4⟩
          · exact ⟨h.dk, zh_fits, h.q1, h.q2, h.q3, h.q4⟩
      · exact OStep.same h zh_fits
theorem OStep.apply {l : Lg} (h : OInv l) (c : Cm) : OStep l (l.apply c) := by
  unfold Lg.apply
  split
  · exact OStep.same h zh_fits
  · split
    · exact (OStep.store h _).once h c
    · split
      · exact (OStep.propose h _).once h c
      · split
        · exact OStep.ack h c
        · exact OStep.same h zh_fits
theorem OInv.apply {l : Lg} (h : OInv l) {c : Cm} (hc : c.OK) : OInv (l.apply c).1 ∧ HF (l.apply c).2.hash := by
  obtain ⟨a, b, c1, c2, c3, c4⟩ := OStep.apply h c
  exact ⟨⟨(LStep.apply h.inv hc).inv, a, c1, c2, c3, c4⟩, b⟩
theorem q_setq (l : Lg) (k j : Int) (x : Rq) (hk : 1 ≤ k ∧ k ≤ 4) (hj : 1 ≤ j ∧ j ≤ 4) : (l.setq k x).q j = if j = k then x else l.q j := by
  have h1 : k = 1 ∨ k = 2 ∨ k = 3 ∨ k = 4 := by omega
  have h2 : j = 1 ∨ j = 2 ∨ j = 3 ∨ j = 4 := by omega
  rcases h1 with rfl | rfl | rfl | rfl <;> rcases h2 with rfl | rfl | rfl | rfl <;> rfl
theorem store_q (l : Lg) (L : List Tr) (k : Int) : (l.store L).1.q k = l.q k := by
  unfold Lg.store
  split
  · rfl
  · split
    · split <;> rfl
    · split <;> rfl
theorem propose_q (l : Lg) (L : List Tr) (k : Int) : (l.propose L).1.q k = l.q k := by
  unfold Lg.propose
  split
  · rfl
  · split
    · rfl
    · split <;> rfl
theorem ack_q (l : Lg) (c : Cm) (k : Int) : (l.ack c).1.q k = l.q k := by
  unfold Lg.ack
  split
  · rfl
  · split
    · rfl
    · split
      · unfold Lg.ack1
        split
        · rfl
        · split <;> rfl
      · rfl
theorem once_q {l : Lg} {c : Cm} {F : Lg × Rp} {k : Int} (hk : 1 ≤ k ∧ k ≤ 4) (hF : F.1.q k = l.q k) (hn : c.client ≠ k) : (l.once c F).1.q k = l.q k := by
  unfold Lg.once
  split
  · rfl
  · rename_i h1
    split
    · rfl
    · split
      · dsimp only
        rw [q_setq _ _ _ _ (by omega) hk, if_neg (fun h => hn h.symm)]; exact hF
      · rfl
/-- What other clients say, and nodes, does not touch a client's last request. -/
theorem apply_q {l : Lg} {c : Cm} {k : Int} (hk : 1 ≤ k ∧ k ≤ 4) (hn : ¬ (c.client = k ∧ c.kind ≠ 3)) : (l.apply c).1.q k = l.q k := by
  unfold Lg.apply
  split
  · rfl
  · split
    · rename_i h1
      exact once_q hk (store_q _ _ _) (fun h => hn ⟨h, by omega⟩)
    · split
      · rename_i h1
        exact once_q hk (propose_q _ _ _) (fun h => hn ⟨h, by omega⟩)
      · split
        · exact ack_q _ _ _
        · rfl
/-- A request of a client that can ask. -/
structure Asks (c : Cm) : Prop where
  kind : c.kind = 1 ∨ c.kind = 2
  client : 1 ≤ c.client ∧ c.client ≤ 4
  seq : 1 ≤ c.seq
theorem Asks.once {c : Cm} (h : Asks c) (l : Lg) : ∃ F : Lg × Rp, l.apply c = l.once c F := by
  unfold Lg.apply
  rcases h.kind with hk | hk
  · exact ⟨_, by rw [if_neg (by omega), if_pos hk]⟩
  · exact ⟨_, by rw [if_neg (by omega), if_neg (by omega), if_pos hk]⟩
theorem Asks.again {c : Cm} (h : Asks c) {l : Lg} (hs : (l.q c.client).seq = c.seq) : l.apply c = (l, (l.q c.client).r) := by
  obtain ⟨F, hF⟩ := h.once l
  have := h.client; have := h.seq
  rw [hF]
  unfold Lg.once
  rw [if_neg (by omega), if_neg (by omega), if_neg (by omega)]
theorem Asks.first {c : Cm} (h : Asks c) (n : Int) : ((Lg.new n).apply c).1.q c.client = ⟨c.seq, ((Lg.new n).apply c).2⟩ := by
  have h1 := h.client; have h2 := h.seq
  have hs : ((Lg.new n).q c.client).seq = 0 := by
    have : c.client = 1 ∨ c.client = 2 ∨ c.client = 3 ∨ c.client = 4 := by omega
    rcases this with h | h | h | h <;> rw [h] <;> rfl
  obtain ⟨F, hF⟩ := h.once (Lg.new n)
  rw [hF]
  unfold Lg.once
  rw [if_neg (by omega), if_neg (by omega), if_pos (by omega)]
  dsimp only
  rw [q_setq _ _ _ _ h1 h1, if_pos rfl]
/-- The request before it is refused, and changes nothing. -/
theorem Asks.old {c : Cm} (h : Asks c) {l : Lg} (hs : (l.q c.client).seq = c.seq) : l.apply { c with seq := c.seq - 1 } = (l, ⟨if c.seq - 1 = 0 then 1 else 61, 0, zh⟩) := by
  have h1 := h.client; have h2 := h.seq
  have ho : ∃ F : Lg × Rp, l.apply { c with seq := c.seq - 1 } = l.once { c with seq := c.seq - 1 } F := by
    unfold Lg.apply
    rcases h.kind with hk | hk
    · exact ⟨_, by dsimp only; rw [if_neg (by omega), if_pos hk]⟩
    · exact ⟨_, by dsimp only; rw [if_neg (by omega), if_neg (by omega), if_pos hk]⟩
  obtain ⟨F, hF⟩ := ho
  rw [hF]
  unfold Lg.once
  dsimp only
  by_cases h0 : c.seq - 1 = 0
  · rw [if_pos (by omega), if_pos h0]
  · rw [if_neg (by omega), if_pos (by omega), if_neg h0]
theorem OInv.new {n : Int} (h : 1 ≤ n ∧ n ≤ 4) : OInv (Lg.new n) := ⟨LInv.new h, by simp [Lg.new], zh_fits, zh_fits, zh_fits, zh_fits⟩
/-- What is told of two ledgers that are held against each other. -/
def imSub (a b : List (List Tr × List Tr)) : Bool := a.all fun p => match findI p.1 b with
  | some y => Tr.eqbs p.2 y
  | none => false
def Lg.qT (l : Lg) : List Tr := [l.q1.t, l.q2.t, l.q3.t, l.q4.t]
def sameB (a b : Lg) : Bool := decide (a.nodes = b.nodes) && Tr.eqbs a.qT b.qT && Tr.eqbs (a.eps.map Ep.t) (b.eps.map Ep.t) && decide (a.im.length = b.im.length) && imSub a.im b.im
theorem findI_of_mem {h d : List Tr} (hh : HF h) : ∀ {im : List (List Tr × List Tr)}, KeysOK im → (im.map Prod.fst).Nodup → (h, d) ∈ im → findI h im = some d
  | [], _, _, hm => by simp at hm
  | (a, x) :: r, hk, hn, hm => by
    simp only [List.map_cons, List.nodup_cons] at hn
    simp only [findI]
    rcases List.mem_cons.1 hm with he | hm2
    · obtain ⟨rfl, rfl⟩ := Prod.mk.inj he
      rw [if_pos (key_self hh)]
    · rw [if_neg]
      · exact findI_of_mem hh (fun p hp => hk p (by simp [hp])) hn.2 hm2
      · intro he
        have := hash_eq hh (hk (a, x) (by simp)).1 he
        subst this
        exact hn.1 (List.mem_map.2 ⟨(h, d), hm2, rfl⟩)
theorem bools_fit : ∀ L : List Bool, Tr.fitsa (L.map Tr.bool) .bool = true
  | [] => rfl
  | b :: r => by
    show (Tr.fits (.bool b) .bool && Tr.fitsa (r.map Tr.bool) .bool) = true
    rw [bools_fit r]; rfl
theorem ep_fits {e : Ep} (h : HF e.hash) (hy : e.yes.length = 4) : Tr.fits e.t (.agg [.arr 32 (.int .u8), .int .i64, .arr 4 .bool]) = true := by
  have h : Tr.fits (.arr 32 e.hash) (.arr 32 (.int .u8)) = true := h
  obtain ⟨hash, phase, yes⟩ := e
  dsimp only at hy h
  have := bools_fit yes
  simp only [Tr.fits, Tr.fitss, kindEq, Bool.true_and, Bool.and_true] at h ⊢
  rw [h, this]; rfl
/-- A copy is the same. -/
theorem sameB_copy {l : Lg} (h : OInv l) {im : List (List Tr × List Tr)} (hp : im.Perm l.im) : sameB l { l with im := im } = true := by
  unfold sameB
  have hq : Tr.eqbs l.qT (Lg.qT { l with im := im }) = true :=
    eqbs_selfs (ss := [rqSh, rqSh, rqSh, rqSh]) (by simp only [Lg.qT, Tr.fitss, rq_fits h.q1, rq_fits h.q2, rq_fits h.q3, rq_fits h.q4, Bool.and_self])
  have he : Tr.eqbs (l.eps.map Ep.t) (l.eps.map Ep.t) = true := by
    have : ∀ L : List Ep, (∀ e ∈ L, HF e.hash ∧ e.yes.length = 4) → Tr.eqbs (L.map Ep.t) (L.map Ep.t) = true := by
      intro L
      induction L with
      | nil => intro _; rfl
      | cons x r ih =>
        intro hx
        obtain ⟨h1, h2⟩ := hx x (by simp)
        simp only [List.map_cons, Tr.eqbs, eqb_self (ep_fits h1 h2), Bool.true_and]
        exact ih fun e he => hx e (by simp [he])
    exact this _ fun e he => ⟨h.inv.hf e he, h.inv.ok.hy e he⟩
  have hi : imSub l.im im = true := by
    unfold imSub
    rw [List.all_eq_true]
    intro p hp1
    have hk := h.inv.ok.hk
    have : findI p.1 im = some p.2 := findI_of_mem (hk p hp1).1 (fun q hq => hk q (hp.mem_iff.1 hq)) ((hp.map Prod.fst).nodup_iff.2 h.dk) (hp.mem_iff.2 hp1)
    rw [this]
    exact (eqbs_bytes (hk p hp1).2 (hk p hp1).2).2 rfl
  simp only [hq, he, hi, hp.length_eq, decide_true, Bool.and_self]
end Stk
end

section
/- The ledger: a copy of its own. -/
namespace Stk
open Go
set_option maxRecDepth 100000
set_option linter.unusedSimpArgs false
set_option linter.unusedVariables false
set_option maxHeartbeats 4000000
theorem perm_erase {α : Type} : ∀ {l : List α} {j : Nat} {p : α}, l[j]? = some p → l.Perm (p :: l.eraseIdx j)
  | [], j, p, h => by simp at h
  | x :: r, 0, p, h => by simp at h; subst h; exact List.Perm.refl _
  | x :: r, j + 1, p, h => by
    have := perm_erase (l := r) (j := j) (p := p) (by simpa using h)
    rw [List.eraseIdx_cons_succ]
    exact (this.cons x).trans (List.Perm.swap p x _)
theorem imT_get {im : List (List Tr × List Tr)} {j : Nat} {p : Tr × Tr} (h : (imT im)[j]? = some p) : ∃ a d, im[j]? = some (a, d) ∧ p = (.arr 32 a, .sl false 1 d) := by
  simp only [imT, List.getElem?_map] at h
  cases hj : im[j]? with
  | none => rw [hj] at h; cases h
  | some q => rw [hj] at h; exact ⟨q.1, q.2, rfl, (Option.some.inj h).symm⟩
theorem imT_erase (im : List (List Tr × List Tr)) : ∀ j, (imT im).eraseIdx j = imT (im.eraseIdx j) := by
  induction im with
  | nil => intro j; rfl
  | cons x r ih =>
    intro j
    cases j with
    | zero => rfl
    | succ j =>
      show (_ :: (imT r).eraseIdx j) = _
      rw [ih, List.eraseIdx_cons_succ]; rfl
theorem findI_key {h y : List Tr} (hh : HF h) : ∀ {im : List (List Tr × List Tr)}, KeysOK im → findI h im = some y → h ∈ im.map Prod.fst
  | [], _, e => by simp [findI] at e
  | (a, d) :: r, hk, e => by
    simp only [findI] at e
    split at e
    · rename_i he
      rw [hash_eq hh (hk (a, d) (by simp)).1 he]; simp
    · have := findI_key hh (fun p hp => hk p (by simp [hp])) e
      simp only [List.map_cons, List.mem_cons]; exact .inr this
structure CpSt (im : List (List Tr × List Tr)) where
  made : List (List Tr × List Tr)
  left : List (List Tr × List Tr)
  perm : (made ++ left).Perm im
  last : Option (Tr × Tr)
theorem k_copy (l : Lg) (hl : OInv l) : ACalls PP GG F.ledger_Ledger_Copy [pt 0] l.H fun r H' => r = pt 4 ∧ ∃ im', im'.Perm l.im ∧ H' = l.D ++ [.var (.agg [ti l.nodes, .mp 5, .sl 6 0 [] 0 l.eps.length none, .t (.agg [l.q1.t, l.q2.t, l.q3.t, l.q4.t])]), .map (imT im'), .row 37 (l.eps.map Ep.t)] := by
  have km := k_made l hl.inv.ok.hn.1
  have hk := hl.inv.ok.hk
  have hd := hl.inv.hd
  have hdk := hl.dk
  have hle := hl.inv.ok.he
  obtain ⟨nodes, im, eps, q1, q2, q3, q4⟩ := l
  dsimp only [Lg.H, Lg.D, Lg.v] at *
  refine K.ledger_Ledger_Copy.callsC rfl ?_
  (conv => arg 3; whnf); repeat ((first | (with_reducible apply sT); rfl | (with_reducible apply sF); rfl | (with_reducible apply sE); rfl); conv => arg 3; whnf)
  refine sat_call km ?_
  rintro r H' ⟨rfl, rfl⟩
  (conv => arg 3; whnf); repeat ((first | (with_reducible apply sT); rfl | (with_reducible apply sF); rfl | (with_reducible apply sE); rfl); conv => arg 3; whnf)
  have kc := k_eclone (eps.map Ep.t) (by simp; omega)
  rw [show (eps.map Ep.t).length = eps.length by simp] at kc
  have hdr : List.take eps.length (List.drop 0 (eps.map Ep.t)) = eps.map Ep.t := by rw [List.drop_zero, List.take_of_length_le (by simp)]
  refine sat_any ?_ ?_
  all_goals
    (conv => arg 3; whnf); repeat ((first | (with_reducible apply sT); rfl | (with_reducible apply sF); rfl | (with_reducible apply sE); rfl); conv => arg 3; whnf)
    rw [hdr]
    refine sat_call kc ?_
    rintro r H' ⟨rfl, rfl⟩
    (conv => arg 3; whnf); repeat ((first | (with_reducible apply sT); rfl | (with_reducible apply sF); rfl | (with_reducible apply sE); rfl); conv => arg 3; whnf)
    refine sat_loopOf mkX_ops (σ := CpSt im) (fun _ => [(3, pt 0), (29, pt 3)])
      (fun x => [.var (.agg [ti nodes, .mp 1, .sl 2 0 [] 0 eps.length none, .t (.agg [q1.t, q2.t, q3.t, q4.t])]), .map (imT x.made), .row 37 (eps.map Ep.t), .iter 4 (imT im) (imT x.left) x.last, .mapI (imT im) 3]) (fun x => x.left.length)
      (fun ex fr' H' => ex = .exit 0 ∧ fr' = [(3, pt 0)] ∧ ∃ im', im'.Perm im ∧ H' = [.var (.agg [ti nodes, .mp 1, .sl 2 0 [] 0 eps.length none, .t (.agg [q1.t, q2.t, q3.t, q4.t])]), .map (imT im'), .row 37 (eps.map Ep.t), .gone, .map (imT im)]) ⟨[], im, List.Perm.refl _, none⟩ ?_ ?_
    · rintro ⟨made, left, perm, last⟩
      dsimp only
      (conv => arg 3; whnf); repeat ((first | (with_reducible apply sT); rfl | (with_reducible apply sF); rfl | (with_reducible apply sE); rfl); conv => arg 3; whnf)
      refine ⟨rfl, fun h => ?_, fun j p hj => ?_⟩
      · have h : left = [] := by simpa [imT] using h
        subst h
        (conv => arg 3; whnf); repeat ((first | (with_reducible apply sT); rfl | (with_reducible apply sF); rfl | (with_reducible apply sE); rfl); conv => arg 3; whnf)
        refine sat_ret ⟨rfl, rfl, made, by simpa using perm, rfl⟩
      · obtain ⟨a, d, hj2, rfl⟩ := imT_get hj
        have hm : (a, d) ∈ im := perm.mem_iff.1 (List.mem_append_right _ (List.mem_of_getElem? hj2))
        have hp2 : (made ++ [(a, d)] ++ left.eraseIdx j).Perm im := by
          rw [List.append_assoc]
          exact ((perm_erase hj2).append_left made).symm.trans perm
        have hnd := (hp2.map Prod.fst).nodup_iff.2 hdk
        have hlt := (List.getElem?_eq_some_iff.1 hj2).1
        have hfa := (hk (a, d) hm).1
        have hfn : findI a made = none := by
          cases hf : findI a made with
          | none => rfl
          | some y =>
            exfalso
            have hkm : KeysOK made := fun q hq => hk q (perm.mem_iff.1 (List.mem_append_left _ hq))
            have hin := findI_key hfa hkm hf
            rw [List.append_assoc, List.map_append, List.nodup_append] at hnd
            exact hnd.2.2 a hin a (by simp) rfl
        rw [imT_erase]
        (conv => arg 3; whnf); repeat ((first | (with_reducible apply sT); rfl | (with_reducible apply sF); rfl | (with_reducible apply sE); rfl); conv => arg 3; whnf)
        refine ⟨rfl, ?_⟩
        (conv => arg 3; whnf); repeat ((first | (with_reducible apply sT); rfl | (with_reducible apply sF); rfl | (with_reducible apply sE); rfl); conv => arg 3; whnf)
        refine sat_call (k_bclone d (by have h9 : d.length ≤ 2 ^ 40 := hd (a, d) hm; omega)) ?_
        rintro r H' ⟨rfl, rfl⟩
        (conv => arg 3; whnf); repeat ((first | (with_reducible apply sT); rfl | (with_reducible apply sF); rfl | (with_reducible apply sE); rfl); conv => arg 3; whnf)
        have hkm : KeysOK made := fun q hq => hk q (perm.mem_iff.1 (List.mem_append_left _ hq))
        refine sat_asrt (fitsKeys hfa hkm) ?_
        rw [show List.take d.length (List.drop 0 d) = d by simp]
        dsimp only
        rw [mput_imT, putI_none hfn]
        (conv => arg 3; whnf); repeat ((first | (with_reducible apply sT); rfl | (with_reducible apply sF); rfl | (with_reducible apply sE); rfl); conv => arg 3; whnf)
        refine sat_ret ⟨⟨made ++ [(a, d)], left.eraseIdx j, hp2, some (.arr 32 a, .sl false 1 d)⟩, rfl, rfl, ?_⟩
        show (left.eraseIdx j).length < left.length
        rw [List.length_eraseIdx]; split <;> omega
    · rintro ex fr' H' ⟨rfl, rfl, im', hp, rfl⟩
      (conv => arg 3; whnf); repeat ((first | (with_reducible apply sT); rfl | (with_reducible apply sF); rfl | (with_reducible apply sE); rfl); conv => arg 3; whnf)
      exact sat_ret ⟨rfl, im', hp, rfl⟩
end Stk
end
