/- Open and Records of the log. -/
import Derived.Test.YtmcdljgpalejaaaW4
import Derived.Test.YtmcdljgpalejaaaWk
namespace Stk
open Go
set_option maxRecDepth 100000
set_option linter.unusedSimpArgs false
set_option linter.unusedVariables false
set_option maxHeartbeats 4000000
abbrev Dk.cont (d : Dk) : List Tr := d.xs.take d.n
def Dk.opn (d : Dk) : Dk × Int := if d.down = true then (d, 9) else if (formsL (records d.cont)).length < d.cont.length then d.replace (formsL (records d.cont)) else (d, 0)
abbrev wv (b c : Nat) (R : List (List Tr)) (cap : Option Nat) (size : Int) (over : Bool) : AO := .var (.agg [pt b, .sl c 0 [] 0 R.length cap, ti size, tb over])
theorem k_open (d : Dk) (hd : d.OK) (hb : AllB d.xs) : ACalls PP GG F.wal_Open [pt 0] d.H fun r H' =>
    (d.opn.2 ≠ 0 ∧ r = .tup [.t .nilp, ti d.opn.2] ∧ H' = d.opn.1.H') ∨
    (d.opn.2 = 0 ∧ r = .tup [pt 3, ti 0] ∧ H' = d.opn.1.H' ++ [wv 0 4 (records d.cont) none (formsL (records d.cont)).length false, .row 1 ((records d.cont).map rx)]) := by
  have hc := hd.big
  have hn := hd.n
  have hcl : d.cont.length ≤ 4194304 := by rw [List.length_take]; omega
  obtain ⟨ft, fr⟩ := forms_take _ d.cont (Nat.le_refl _) (hb.take _)
  refine K.wal_Open.callsC rfl ?_
  (conv => arg 3; whnf); repeat (first | ((with_reducible refine sat_brT ?_ ?_); rfl; conv => arg 3; whnf) | ((with_reducible refine sat_brF ?_ ?_); rfl; conv => arg 3; whnf) | ((with_reducible refine sat_eqv ?_ ?_); rfl; conv => arg 3; whnf))
  refine sat_call (k_read d hd) ?_
  rintro r H' (⟨h, rfl, rfl⟩ | ⟨h, rfl, rfl⟩)
  · (conv => arg 3; whnf); repeat (first | ((with_reducible refine sat_brT ?_ ?_); rfl; conv => arg 3; whnf) | ((with_reducible refine sat_brF ?_ ?_); rfl; conv => arg 3; whnf) | ((with_reducible refine sat_eqv ?_ ?_); rfl; conv => arg 3; whnf))
    exact sat_ret (.inl ⟨by simp [Dk.opn, h], by simp [Dk.opn, h], by simp [Dk.opn, h]⟩)
  · have e0 : Dk.cont d = List.take d.n d.xs := rfl
    rw [← e0]
    have hbc : AllB d.cont := hb.take _
    have hopn : d.opn = if (formsL (records d.cont)).length < d.cont.length then d.replace (formsL (records d.cont)) else (d, 0) := by unfold Dk.opn; rw [if_neg (by simp [h])]
    generalize d.cont = L at *
    (conv => arg 3; whnf); repeat (first | ((with_reducible refine sat_brT ?_ ?_); rfl; conv => arg 3; whnf) | ((with_reducible refine sat_brF ?_ ?_); rfl; conv => arg 3; whnf) | ((with_reducible refine sat_eqv ?_ ?_); rfl; conv => arg 3; whnf))
    rw [show List.take L.length (List.drop 0 L) = L by rw [List.drop_zero, List.take_length]]
    refine sat_call (k_wsplit L hbc (by omega)) ?_
    rintro r H' ⟨rfl, rfl⟩
    (conv => arg 3; whnf); repeat (first | ((with_reducible refine sat_brT ?_ ?_); rfl; conv => arg 3; whnf) | ((with_reducible refine sat_brF ?_ ?_); rfl; conv => arg 3; whnf) | ((with_reducible refine sat_eqv ?_ ?_); rfl; conv => arg 3; whnf))
    refine sat_br (fun h2 => ?_) (fun h2 => ?_)
    · have h2 := of_decide_eq_true h2
      have h2' : (formsL (records L)).length < L.length := by omega
      (conv => arg 3; whnf); repeat (first | ((with_reducible refine sat_brT ?_ ?_); rfl; conv => arg 3; whnf) | ((with_reducible refine sat_brF ?_ ?_); rfl; conv => arg 3; whnf) | ((with_reducible refine sat_eqv ?_ ?_); rfl; conv => arg 3; whnf))
      refine sat_asrt (by simp; omega) ?_
      (conv => arg 3; whnf); repeat (first | ((with_reducible refine sat_brT ?_ ?_); rfl; conv => arg 3; whnf) | ((with_reducible refine sat_brF ?_ ?_); rfl; conv => arg 3; whnf) | ((with_reducible refine sat_eqv ?_ ?_); rfl; conv => arg 3; whnf))
      have ek : List.take (((formsL (records L)).length : Int).toNat - 0) (List.drop (0 + 0) L) = formsL (records L) := by
        rw [ft]; simp [← ft]
      rw [ek]
      refine sat_call (k_replace d hd _ (by omega)) ?_
      rintro r H' ⟨rfl, rfl⟩
      rw [if_pos h2'] at hopn
      rw [← hopn]
      (conv => arg 3; whnf); repeat (first | ((with_reducible refine sat_brT ?_ ?_); rfl; conv => arg 3; whnf) | ((with_reducible refine sat_brF ?_ ?_); rfl; conv => arg 3; whnf) | ((with_reducible refine sat_eqv ?_ ?_); rfl; conv => arg 3; whnf))
      refine sat_br (fun h3 => ?_) (fun h3 => ?_)
      · (conv => arg 3; whnf); repeat (first | ((with_reducible refine sat_brT ?_ ?_); rfl; conv => arg 3; whnf) | ((with_reducible refine sat_brF ?_ ?_); rfl; conv => arg 3; whnf) | ((with_reducible refine sat_eqv ?_ ?_); rfl; conv => arg 3; whnf))
        exact sat_ret (.inl ⟨by simpa using h3, rfl, rfl⟩)
      · (conv => arg 3; whnf); repeat (first | ((with_reducible refine sat_brT ?_ ?_); rfl; conv => arg 3; whnf) | ((with_reducible refine sat_brF ?_ ?_); rfl; conv => arg 3; whnf) | ((with_reducible refine sat_eqv ?_ ?_); rfl; conv => arg 3; whnf))
        refine sat_ret (.inr ⟨by simpa using h3, ?_, ?_⟩)
        · rfl
        · rfl
    · have h2 := of_decide_eq_false h2
      rw [if_neg (by omega)] at hopn
      (conv => arg 3; whnf); repeat (first | ((with_reducible refine sat_brT ?_ ?_); rfl; conv => arg 3; whnf) | ((with_reducible refine sat_brF ?_ ?_); rfl; conv => arg 3; whnf) | ((with_reducible refine sat_eqv ?_ ?_); rfl; conv => arg 3; whnf))
      refine sat_ret (.inr ⟨by rw [hopn], ?_, ?_⟩)
      · rfl
      · rw [hopn]; rfl
theorem rep0 {d : Dk} (h : d.down = false) (hf : d.fuse = 0) {ys : List Tr} (hy : ys.length ≤ 4194304) : d.replace ys = (d.set ys, 0) := by
  have : d.ready ys.length = 0 := by unfold Dk.ready; rw [if_neg (by simp [h]), if_neg (by omega)]
  unfold Dk.replace
  rw [if_pos this]
  unfold Dk.change
  rw [if_pos hf]
structure Wl where
  d : Dk
  R : List (List Tr)
  cap : Option Nat
  size : Int
  over : Bool
abbrev Wl.H (w : Wl) : Hp := [wv 1 3 w.R w.cap w.size w.over, w.d.v 2, .row 1 w.d.xs, .row 1 (w.R.map rx)]
abbrev Wl.H' (w : Wl) : Hp := [wv 1 5 w.R w.cap w.size w.over, w.d.v 4, .gone, .gone, .row 1 w.d.xs, .row 1 (w.R.map rx)]
theorem k_records (w : Wl) (hR : AllR w.R) (hl : w.R.length ≤ 2 ^ 40) : ACalls PP GG F.wal_Wal_Records [pt 0] w.H fun r H' => r = .sl 6 0 [] 0 w.R.length none ∧ H' = w.H' ++ [.row 1 (w.R.map rx)] := by
  refine K.wal_Wal_Records.callsC rfl ?_
  (conv => arg 3; whnf); repeat (first | ((with_reducible refine sat_brT ?_ ?_); rfl; conv => arg 3; whnf) | ((with_reducible refine sat_brF ?_ ?_); rfl; conv => arg 3; whnf) | ((with_reducible refine sat_eqv ?_ ?_); rfl; conv => arg 3; whnf))
  refine sat_loopOf mkX_ops (σ := FoSt w.R) (fun x => [(0, pt 0), (3, .sl 4 0 [] 0 (w.R.take x.i).length none), (11, .sl 3 0 [] 0 w.R.length w.cap), (12, ti w.R.length), (13, ti x.i)])
      (fun x => [wv 1 3 w.R w.cap w.size w.over, w.d.v 2, .row 1 w.d.xs, .row 1 (w.R.map rx), .row 1 ((w.R.take x.i).map rx)]) (fun x => w.R.length - x.i)
      (fun ex fr' H' => H' = [wv 1 3 w.R w.cap w.size w.over, w.d.v 2, .row 1 w.d.xs, .row 1 (w.R.map rx), .row 1 (w.R.map rx)] ∧ ex = .exit 0 ∧ fr' = [(3, .sl 4 0 [] 0 w.R.length none)]) ⟨0, Nat.zero_le _⟩ ?_ ?_
  · rintro ⟨i, hi⟩
    dsimp only
    refine sat_br (fun h => ?_) (fun h => ?_)
    · have h : i < w.R.length := by have := of_decide_eq_true h; omega
      obtain ⟨u, hu, hu1, hu2⟩ := hR.get h
      (conv => arg 3; whnf); repeat (first | ((with_reducible refine sat_brT ?_ ?_); rfl; conv => arg 3; whnf) | ((with_reducible refine sat_brF ?_ ?_); rfl; conv => arg 3; whnf) | ((with_reducible refine sat_eqv ?_ ?_); rfl; conv => arg 3; whnf))
      refine sat_asrt (by simp; omega) ?_
      (conv => arg 3; whnf); repeat (first | ((with_reducible refine sat_brT ?_ ?_); rfl; conv => arg 3; whnf) | ((with_reducible refine sat_brF ?_ ?_); rfl; conv => arg 3; whnf) | ((with_reducible refine sat_eqv ?_ ?_); rfl; conv => arg 3; whnf))
      refine sat_idx (rx u) (by omega) (by rw [show (((0 + (i : Int).toNat : Nat) : Int)).toNat = i by omega]; exact get_rx hu) ?_
      (conv => arg 3; whnf); repeat (first | ((with_reducible refine sat_brT ?_ ?_); rfl; conv => arg 3; whnf) | ((with_reducible refine sat_brF ?_ ?_); rfl; conv => arg 3; whnf) | ((with_reducible refine sat_eqv ?_ ?_); rfl; conv => arg 3; whnf))
      refine sat_call (k_clone u (by omega)) ?_
      rintro r H' ⟨rfl, rfl⟩
      (conv => arg 3; whnf); repeat (first | ((with_reducible refine sat_brT ?_ ?_); rfl; conv => arg 3; whnf) | ((with_reducible refine sat_brF ?_ ?_); rfl; conv => arg 3; whnf) | ((with_reducible refine sat_eqv ?_ ?_); rfl; conv => arg 3; whnf))
      refine sat_asrt (by simp) ?_
      refine sat_asrt (by simp [roomy]; omega) ?_
      refine sat_brT (by simp) ?_
      (conv => arg 3; whnf); repeat (first | ((with_reducible refine sat_brT ?_ ?_); rfl; conv => arg 3; whnf) | ((with_reducible refine sat_brF ?_ ?_); rfl; conv => arg 3; whnf) | ((with_reducible refine sat_eqv ?_ ?_); rfl; conv => arg 3; whnf))
      refine sat_rng (wrap64 (by omega) (by omega)) ?_
      have em : List.take u.length (List.drop 0 u) = u := by rw [List.drop_zero, List.take_length]
      refine sat_ret ⟨⟨i + 1, by omega⟩, ?_, ?_, by show w.R.length - (i + 1) < w.R.length - i; omega⟩
      · rw [em, ← map_rx_snoc, ← take_succ_get hu, List.length_map]; rfl
      · rw [em, ← map_rx_snoc, ← take_succ_get hu]
    · have h : ¬ i < w.R.length := by have := of_decide_eq_false h; omega
      have : w.R.take i = w.R := List.take_of_length_le (by omega)
      rw [this]
      exact sat_ret ⟨rfl, rfl, rfl⟩
  · rintro ex fr' H' ⟨rfl, rfl, rfl⟩
    (conv => arg 3; whnf); repeat (first | ((with_reducible refine sat_brT ?_ ?_); rfl; conv => arg 3; whnf) | ((with_reducible refine sat_brF ?_ ?_); rfl; conv => arg 3; whnf) | ((with_reducible refine sat_eqv ?_ ?_); rfl; conv => arg 3; whnf))
    exact sat_ret ⟨rfl, rfl⟩
end Stk
