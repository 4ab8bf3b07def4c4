/- WalKeeps: what lasts is there behind each crash, and of the rest the first ones, whole. -/
import Derived.Test.YtmcdljgpalejaaaV3
namespace Stk
open Go
set_option maxRecDepth 100000
set_option linter.unusedSimpArgs false
set_option linter.unusedVariables false
set_option maxHeartbeats 16000000
abbrev ReD : TyD := .sl 1 (.sl 1 (.int .u8))
abbrev AcD : TyD := .st [.int .i64, ReD, .int .i64, .bool]
theorem byW {L : List Tr} (h : ∀ y ∈ L, TrW (.int .u8) y) : AllB L := by
  intro y hy
  obtain ⟨a, rfl, w1⟩ := h y hy
  have := wf_u8 w1
  exact ⟨a, rfl, by omega, by omega⟩
theorem recs_of : ∀ {xs : List Tr}, (∀ y ∈ xs, TrW (.sl 1 (.int .u8)) y) → ∃ Q : List (List Tr), xs = Q.map rx ∧ ∀ x ∈ Q, AllB x ∧ x.length ≤ 2 ^ 47
  | [], _ => ⟨[], rfl, fun x hx => by cases hx⟩
  | x :: xs, h => by
    obtain ⟨Q, rfl, hQ⟩ := recs_of (xs := xs) fun y hy => h y (by simp [hy])
    obtain ⟨u, rfl, h1, h2⟩ := h x (by simp)
    have h1' : u.length * 1 ≤ 140737488351232 := h1
    refine ⟨u :: Q, rfl, fun y hy => ?_⟩
    rcases List.mem_cons.1 hy with rfl | hy
    · exact ⟨byW h2, by omega⟩
    · exact hQ y hy
theorem act_of {x : Tr} (h : TrW AcD x) : ∃ (k : Int) (Q : List (List Tr)) (n : Int) (b : Bool), x = .agg [.int .i64 k, .sl false 1 (Q.map rx), .int .i64 n, .bool b] ∧ (∀ x ∈ Q, AllB x ∧ x.length ≤ 2 ^ 47) ∧ Q.length ≤ 2 ^ 47 ∧ n ≤ 9223372036854775807 := by
  obtain ⟨_, rfl, y0, _, rfl, ⟨k, rfl, w0⟩, y1, _, rfl, ⟨xs, rfl, h1, h2⟩, y2, _, rfl, ⟨n, rfl, w2⟩, y3, _, rfl, ⟨b, rfl⟩, rfl⟩ := h
  obtain ⟨Q, rfl, hQ⟩ := recs_of h2
  have h1' : (Q.map rx).length * 24 ≤ 140737488351232 := h1
  rw [List.length_map] at h1'
  exact ⟨k, Q, n, b, rfl, hQ, by omega, (wf_i64 w2).2⟩
theorem lensum_mem : ∀ {Q : List (List Tr)} {x : List Tr}, x ∈ Q → x.length ≤ lensum Q
  | y :: Q, x, h => by
    have e : lensum (y :: Q) = y.length + lensum Q := by simp [lensum]
    rw [e]
    rcases List.mem_cons.1 h with rfl | h
    · omega
    · have := lensum_mem h; omega
theorem k_firstN : ACalls PP GG F.law22_first [.t (.sl false 1 (([] : List (List Tr)).map rx))] [] fun r H' => r = .sl 0 0 [] 0 0 none ∧ H' = [.row 1 []] :=
  (k_first []).mono (by
    rintro r H' (⟨_, rfl, rfl⟩ | ⟨u, S, h, _⟩)
    · exact ⟨rfl, rfl⟩
    · cases h)
theorem k_firstC (u : List Tr) (S : List (List Tr)) : ACalls PP GG F.law22_first [.t (.sl false 1 ((u :: S).map rx))] [] fun r H' => r = .t (rx u) ∧ H' = [] :=
  (k_first (u :: S)).mono (by
    rintro r H' (⟨h, _⟩ | ⟨v, S', h, rfl, rfl⟩)
    · cases h
    · cases h; exact ⟨rfl, rfl⟩)
theorem ownApp (A : List (List Tr)) (u : List Tr) : List.take (List.map rx A ++ List.take 1 (List.drop 0 [Tr.sl false 1 (List.take u.length (List.drop 0 u))])).length (List.drop 0 (List.map rx A ++ List.take 1 (List.drop 0 [Tr.sl false 1 (List.take u.length (List.drop 0 u))]))) = (A ++ [u]).map rx := by
  simp only [List.drop_zero, List.take_length, List.map_append]; rfl
theorem ownQ (Q : List (List Tr)) : List.take Q.length (List.drop 0 (List.map rx Q)) = Q.map rx := by rw [List.drop_zero]; exact List.take_of_length_le (by simp)
theorem open_okK (d d' : Dk) (hd : d.OK) (hb : AllB d.xs) (h : d.opn = (d', 0)) (R : List (List Tr)) (hR : records d.cont = R) (n : Int) (hn : ((formsL R).length : Int) = n) :
    ACalls PP GG F.wal_Open [pt 0] d.H fun r H' => r = .tup [pt 3, ti 0] ∧ H' = d'.H' ++ [wv 0 4 R none n false, .row 1 (R.map rx)] := by
  refine (k_open d hd hb).mono ?_
  rintro r H' (⟨h1, -, -⟩ | ⟨-, h2, h3⟩)
  · rw [h] at h1; exact absurd rfl h1
  · rw [h] at h3
    subst hR hn
    exact ⟨h2, h3⟩
abbrev E0 : Dk := ⟨false, false, [], 0, 0, 0⟩
theorem E0_ok : E0.OK := ⟨by decide, by decide, by decide, by decide, by decide, by decide⟩
theorem allR_nil : AllR [] := fun x hx => by cases hx
theorem KI0 : KI ⟨E0, [], 0, false⟩ [] [] [] false := ⟨E0_ok, AllB.nil, allR_nil, allR_nil, allR_nil, allR_nil, by decide, by decide, by decide, by decide, by decide, fun _ => ⟨rfl, rfl, rfl, List.prefix_refl _, by decide⟩, fun h => (by cases h)⟩
structure KSt (L : List Tr) where
  i : Nat
  w : Lg
  S : List (List Tr)
  A : List (List Tr)
  O : List (List Tr)
  mb : Bool
  fs : Bool
  fa : Bool
  fo : Bool
  inv : KI w S A O mb
  le : i ≤ L.length
abbrev KSt.fr {L : List Tr} (x : KSt L) : Fr := [(0, .t (.sl false 4 L)), (3, pt 0), (4, pt 2), (6, .t (.sl x.fs 1 (x.S.map rx))), (7, .t (.sl x.fa 1 (x.A.map rx))), (8, .t (.sl x.fo 1 (x.O.map rx))), (9, tb x.mb), (10, tb x.w.d.down), (11, ti x.i)]
abbrev KSt.hp {L : List Tr} (x : KSt L) : Hp := [x.w.d.v 1, .row 1 x.w.d.xs, wv 0 3 x.w.R none x.w.size x.w.over, .row 1 (x.w.R.map rx)]
theorem l_keeps (x0 : Tr) (h0 : TrW (.sl 4 AcD) x0) : ACalls PP GG F.law22_WalKeeps (toAVs [x0]) [] fun r _ => r = .t (.bool true) := by
  obtain ⟨L, rfl, hl, hL⟩ := h0
  refine K.law22_WalKeeps.callsC rfl ?_
  (conv => arg 3; whnf); repeat (first | ((with_reducible refine sat_brT ?_ ?_); rfl; conv => arg 3; whnf) | ((with_reducible refine sat_brF ?_ ?_); rfl; conv => arg 3; whnf) | ((with_reducible refine sat_eqv ?_ ?_); rfl; conv => arg 3; whnf))
  refine sat_call k_new ?_
  rintro r H' ⟨rfl, rfl⟩
  (conv => arg 3; whnf); repeat (first | ((with_reducible refine sat_brT ?_ ?_); rfl; conv => arg 3; whnf) | ((with_reducible refine sat_brF ?_ ?_); rfl; conv => arg 3; whnf) | ((with_reducible refine sat_eqv ?_ ?_); rfl; conv => arg 3; whnf))
  refine sat_call (open_okK E0 E0 E0_ok AllB.nil rfl [] rfl 0 rfl) ?_
  rintro r H' ⟨rfl, rfl⟩
  (conv => arg 3; whnf); repeat (first | ((with_reducible refine sat_brT ?_ ?_); rfl; conv => arg 3; whnf) | ((with_reducible refine sat_brF ?_ ?_); rfl; conv => arg 3; whnf) | ((with_reducible refine sat_eqv ?_ ?_); rfl; conv => arg 3; whnf))
  refine sat_br (fun h => ?_) (fun h => ?_)
  · (conv => arg 3; whnf); repeat (first | ((with_reducible refine sat_brT ?_ ?_); rfl; conv => arg 3; whnf) | ((with_reducible refine sat_brF ?_ ?_); rfl; conv => arg 3; whnf) | ((with_reducible refine sat_eqv ?_ ?_); rfl; conv => arg 3; whnf))
    refine sat_call k_wakes ?_
    rintro r H' ⟨rfl, rfl⟩
    (conv => arg 3; whnf); repeat (first | ((with_reducible refine sat_brT ?_ ?_); rfl; conv => arg 3; whnf) | ((with_reducible refine sat_brF ?_ ?_); rfl; conv => arg 3; whnf) | ((with_reducible refine sat_eqv ?_ ?_); rfl; conv => arg 3; whnf))
    exact sat_ret rfl
  have hlen : L.length ≤ 60 := by have := of_decide_eq_false h; omega
  clear h
  (conv => arg 3; whnf); repeat (first | ((with_reducible refine sat_brT ?_ ?_); rfl; conv => arg 3; whnf) | ((with_reducible refine sat_brF ?_ ?_); rfl; conv => arg 3; whnf) | ((with_reducible refine sat_eqv ?_ ?_); rfl; conv => arg 3; whnf))
  refine sat_loopOf mkX_ops (σ := KSt L) (fun x => x.fr) (fun x => x.hp) (fun x => L.length - x.i)
    (fun ex fr' H' => (∃ w : Lg, H' = [w.d.v 1, .row 1 w.d.xs, wv 0 3 w.R none w.size w.over, .row 1 (w.R.map rx)]) ∧ ex = .exit 0 ∧ fr' = [(2, .undef)]) ⟨0, ⟨E0, [], 0, false⟩, [], [], [], false, true, true, true, ?_, Nat.zero_le _⟩ ?_ ?_
  · exact KI0
  · rintro ⟨i, w, S, A, O, mb, fs, fa, fo, inv, hi⟩
    dsimp only [KSt.fr, KSt.hp]
    (conv => arg 3; whnf); repeat (first | ((with_reducible refine sat_brT ?_ ?_); rfl; conv => arg 3; whnf) | ((with_reducible refine sat_brF ?_ ?_); rfl; conv => arg 3; whnf) | ((with_reducible refine sat_eqv ?_ ?_); rfl; conv => arg 3; whnf))
    refine sat_br (fun h => ?_) (fun h => ?_)
    rotate_left
    · exact sat_ret ⟨⟨w, rfl⟩, rfl, rfl⟩
    have h : i < L.length := by have := of_decide_eq_true h; omega
    obtain ⟨k, Q, n, dn, hx, hQ, hQl, hn⟩ := act_of (hL _ (List.getElem_mem h))
    have hu : L[i]? = some (.agg [.int .i64 k, .sl false 1 (Q.map rx), .int .i64 n, .bool dn]) := by rw [← hx]; exact List.getElem?_eq_getElem h
    clear hx
    (conv => arg 3; whnf); repeat (first | ((with_reducible refine sat_brT ?_ ?_); rfl; conv => arg 3; whnf) | ((with_reducible refine sat_brF ?_ ?_); rfl; conv => arg 3; whnf) | ((with_reducible refine sat_eqv ?_ ?_); rfl; conv => arg 3; whnf))
    refine sat_idx _ (by omega) (by simpa using hu) ?_
    (conv => arg 3; whnf); repeat (first | ((with_reducible refine sat_brT ?_ ?_); rfl; conv => arg 3; whnf) | ((with_reducible refine sat_brF ?_ ?_); rfl; conv => arg 3; whnf) | ((with_reducible refine sat_eqv ?_ ?_); rfl; conv => arg 3; whnf))
    refine sat_call (k_large Q (by omega) (fun x hx => by have := (hQ x hx).2; omega)) ?_
    rintro r H' ⟨q, rfl, hq, rfl⟩
    cases q
    rotate_left
    · (conv => arg 3; whnf); repeat (first | ((with_reducible refine sat_brT ?_ ?_); rfl; conv => arg 3; whnf) | ((with_reducible refine sat_brF ?_ ?_); rfl; conv => arg 3; whnf) | ((with_reducible refine sat_eqv ?_ ?_); rfl; conv => arg 3; whnf))
      refine sat_rng (wrap64 (by omega) (by omega)) ?_
      exact sat_ret ⟨⟨i + 1, w, S, A, O, mb, fs, fa, fo, inv, by omega⟩, rfl, rfl, by show L.length - (i + 1) < L.length - i; omega⟩
    have hq := hq rfl
    (conv => arg 3; whnf); repeat (first | ((with_reducible refine sat_brT ?_ ?_); rfl; conv => arg 3; whnf) | ((with_reducible refine sat_brF ?_ ?_); rfl; conv => arg 3; whnf) | ((with_reducible refine sat_eqv ?_ ?_); rfl; conv => arg 3; whnf))
    have hQL : (formsL Q).length ≤ 8000 := by rw [formsL_len]; omega
    have hQs : ∀ x ∈ Q, x.length ≤ 2000 := fun x hx => by
      have h9 := lensum_mem hx
      omega
    refine sat_br (fun h0 => ?_) (fun h0 => ?_)
    · (conv => arg 3; whnf); repeat (first | ((with_reducible refine sat_brT ?_ ?_); rfl; conv => arg 3; whnf) | ((with_reducible refine sat_brF ?_ ?_); rfl; conv => arg 3; whnf) | ((with_reducible refine sat_eqv ?_ ?_); rfl; conv => arg 3; whnf))
      cases Q with
      | nil =>
        have hub : AllB ([] : List Tr) := AllB.nil
        have hul : ([] : List Tr).length ≤ 2000 := by decide
        refine sat_call (k_firstN) ?_
        rintro r H' ⟨rfl, rfl⟩
        (conv => arg 3; whnf); repeat (first | ((with_reducible refine sat_brT ?_ ?_); rfl; conv => arg 3; whnf) | ((with_reducible refine sat_brF ?_ ?_); rfl; conv => arg 3; whnf) | ((with_reducible refine sat_eqv ?_ ?_); rfl; conv => arg 3; whnf))
        have kA := k_wappend w inv.ok [] (by decide) (by have := inv.rr; have := inv.sz; omega) (by have := inv.rr; have := inv.sz; omega)
        have o := inv.apd hub hul
        generalize w.apd [] = q at *
        obtain ⟨w', e⟩ := q
        dsimp only at kA o
        refine sat_call kA ?_
        rintro r H' ⟨rfl, rfl⟩
        have hal := inv.al
        have kO := k_ownR A (by omega) (fun x hx => by have := (inv.rA x hx).2; omega)
        rcases o with ⟨rfl, d1, d2, o⟩ | ⟨rfl, d1, d2, o⟩ | ⟨e0, e9, d1, o⟩
        · rw [d1]
          (conv => arg 3; whnf); repeat (first | ((with_reducible refine sat_brT ?_ ?_); rfl; conv => arg 3; whnf) | ((with_reducible refine sat_brF ?_ ?_); rfl; conv => arg 3; whnf) | ((with_reducible refine sat_eqv ?_ ?_); rfl; conv => arg 3; whnf))
          refine sat_call kO ?_
          rintro r H' ⟨rfl, rfl⟩
          (conv => arg 3; whnf); repeat (first | ((with_reducible refine sat_brT ?_ ?_); rfl; conv => arg 3; whnf) | ((with_reducible refine sat_brF ?_ ?_); rfl; conv => arg 3; whnf) | ((with_reducible refine sat_eqv ?_ ?_); rfl; conv => arg 3; whnf))
          refine sat_call (k_firstN) ?_
          rintro r H' ⟨rfl, rfl⟩
          (conv => arg 3; whnf); repeat (first | ((with_reducible refine sat_brT ?_ ?_); rfl; conv => arg 3; whnf) | ((with_reducible refine sat_brF ?_ ?_); rfl; conv => arg 3; whnf) | ((with_reducible refine sat_eqv ?_ ?_); rfl; conv => arg 3; whnf))
          refine sat_asrt (by first | (simp [roomy]; done) | (simp [roomy]; omega)) ?_
          (conv => arg 3; whnf); repeat (first | ((with_reducible refine sat_brT ?_ ?_); rfl; conv => arg 3; whnf) | ((with_reducible refine sat_brF ?_ ?_); rfl; conv => arg 3; whnf) | ((with_reducible refine sat_eqv ?_ ?_); rfl; conv => arg 3; whnf))
          refine sat_asrt (by simp) ?_
          refine sat_asrt (by simp [roomy]; omega) ?_
          refine sat_brT (by simp) ?_
          (conv => arg 3; whnf); repeat (first | ((with_reducible refine sat_brT ?_ ?_); rfl; conv => arg 3; whnf) | ((with_reducible refine sat_brF ?_ ?_); rfl; conv => arg 3; whnf) | ((with_reducible refine sat_eqv ?_ ?_); rfl; conv => arg 3; whnf))
          refine sat_rng (wrap64 (by omega) (by omega)) ?_
          refine sat_ret ⟨⟨i + 1, w', S, (A ++ [[]]), O, mb, fs, false, fo, o, by omega⟩, ?_, rfl, by show L.length - (i + 1) < L.length - i; omega⟩
          rw [ownApp]
          show _ = [(0, AV.t (Tr.sl false 4 L)), (3, pt 0), (4, pt 2), (6, AV.t (Tr.sl fs 1 (List.map rx S))), (7, AV.t (Tr.sl false 1 (List.map rx (A ++ [[]])))), (8, AV.t (Tr.sl fo 1 (List.map rx O))), (9, tb mb), (10, tb w'.d.down), (11, ti (i + 1 : Nat))]
          rw [d2]
          rfl
        · rw [d1]
          (conv => arg 3; whnf); repeat (first | ((with_reducible refine sat_brT ?_ ?_); rfl; conv => arg 3; whnf) | ((with_reducible refine sat_brF ?_ ?_); rfl; conv => arg 3; whnf) | ((with_reducible refine sat_eqv ?_ ?_); rfl; conv => arg 3; whnf))
          refine sat_call kO ?_
          rintro r H' ⟨rfl, rfl⟩
          (conv => arg 3; whnf); repeat (first | ((with_reducible refine sat_brT ?_ ?_); rfl; conv => arg 3; whnf) | ((with_reducible refine sat_brF ?_ ?_); rfl; conv => arg 3; whnf) | ((with_reducible refine sat_eqv ?_ ?_); rfl; conv => arg 3; whnf))
          refine sat_call (k_firstN) ?_
          rintro r H' ⟨rfl, rfl⟩
          (conv => arg 3; whnf); repeat (first | ((with_reducible refine sat_brT ?_ ?_); rfl; conv => arg 3; whnf) | ((with_reducible refine sat_brF ?_ ?_); rfl; conv => arg 3; whnf) | ((with_reducible refine sat_eqv ?_ ?_); rfl; conv => arg 3; whnf))
          refine sat_asrt (by first | (simp [roomy]; done) | (simp [roomy]; omega)) ?_
          (conv => arg 3; whnf); repeat (first | ((with_reducible refine sat_brT ?_ ?_); rfl; conv => arg 3; whnf) | ((with_reducible refine sat_brF ?_ ?_); rfl; conv => arg 3; whnf) | ((with_reducible refine sat_eqv ?_ ?_); rfl; conv => arg 3; whnf))
          refine sat_asrt (by simp) ?_
          refine sat_asrt (by simp [roomy]; omega) ?_
          refine sat_brT (by simp) ?_
          (conv => arg 3; whnf); repeat (first | ((with_reducible refine sat_brT ?_ ?_); rfl; conv => arg 3; whnf) | ((with_reducible refine sat_brF ?_ ?_); rfl; conv => arg 3; whnf) | ((with_reducible refine sat_eqv ?_ ?_); rfl; conv => arg 3; whnf))
          refine sat_rng (wrap64 (by omega) (by omega)) ?_
          refine sat_ret ⟨⟨i + 1, w', S, (A ++ [[]]), O, mb, fs, false, fo, o, by omega⟩, ?_, rfl, by show L.length - (i + 1) < L.length - i; omega⟩
          rw [ownApp]
          show _ = [(0, AV.t (Tr.sl false 4 L)), (3, pt 0), (4, pt 2), (6, AV.t (Tr.sl fs 1 (List.map rx S))), (7, AV.t (Tr.sl false 1 (List.map rx (A ++ [[]])))), (8, AV.t (Tr.sl fo 1 (List.map rx O))), (9, tb mb), (10, tb w'.d.down), (11, ti (i + 1 : Nat))]
          rw [d2]
          rfl
        · (conv => arg 3; whnf); repeat (first | ((with_reducible refine sat_brT ?_ ?_); rfl; conv => arg 3; whnf) | ((with_reducible refine sat_brF ?_ ?_); rfl; conv => arg 3; whnf) | ((with_reducible refine sat_eqv ?_ ?_); rfl; conv => arg 3; whnf))
          refine sat_brF (show (e == 0) = false by simpa using e0) ?_
          cases hdd : w.d.down
          · have h99 : (e == 9) = false := by
              cases h9 : (e == 9)
              · rfl
              · rw [e9 (by simpa using h9)] at hdd; cases hdd
            (conv => arg 3; whnf); repeat (first | ((with_reducible refine sat_brT ?_ ?_); rfl; conv => arg 3; whnf) | ((with_reducible refine sat_brF ?_ ?_); rfl; conv => arg 3; whnf) | ((with_reducible refine sat_eqv ?_ ?_); rfl; conv => arg 3; whnf))
            refine sat_brF h99 ?_
            (conv => arg 3; whnf); repeat (first | ((with_reducible refine sat_brT ?_ ?_); rfl; conv => arg 3; whnf) | ((with_reducible refine sat_brF ?_ ?_); rfl; conv => arg 3; whnf) | ((with_reducible refine sat_eqv ?_ ?_); rfl; conv => arg 3; whnf))
            refine sat_rng (wrap64 (by omega) (by omega)) ?_
            refine sat_ret ⟨⟨i + 1, w', S, A, O, mb, fs, fa, fo, o, by omega⟩, ?_, rfl, by show L.length - (i + 1) < L.length - i; omega⟩
            rw [h99]
            show _ = [(0, AV.t (Tr.sl false 4 L)), (3, pt 0), (4, pt 2), (6, AV.t (Tr.sl fs 1 (List.map rx S))), (7, AV.t (Tr.sl fa 1 (List.map rx A))), (8, AV.t (Tr.sl fo 1 (List.map rx O))), (9, tb mb), (10, tb w'.d.down), (11, ti (i + 1 : Nat))]
            rw [d1, hdd]
            rfl
          · (conv => arg 3; whnf); repeat (first | ((with_reducible refine sat_brT ?_ ?_); rfl; conv => arg 3; whnf) | ((with_reducible refine sat_brF ?_ ?_); rfl; conv => arg 3; whnf) | ((with_reducible refine sat_eqv ?_ ?_); rfl; conv => arg 3; whnf))
            refine sat_br (fun _ => ?_) (fun _ => ?_)
            all_goals
              (conv => arg 3; whnf); repeat (first | ((with_reducible refine sat_brT ?_ ?_); rfl; conv => arg 3; whnf) | ((with_reducible refine sat_brF ?_ ?_); rfl; conv => arg 3; whnf) | ((with_reducible refine sat_eqv ?_ ?_); rfl; conv => arg 3; whnf))
              refine sat_rng (wrap64 (by omega) (by omega)) ?_
              refine sat_ret ⟨⟨i + 1, w', S, A, O, mb, fs, fa, fo, o, by omega⟩, ?_, rfl, by show L.length - (i + 1) < L.length - i; omega⟩
              show _ = [(0, AV.t (Tr.sl false 4 L)), (3, pt 0), (4, pt 2), (6, AV.t (Tr.sl fs 1 (List.map rx S))), (7, AV.t (Tr.sl fa 1 (List.map rx A))), (8, AV.t (Tr.sl fo 1 (List.map rx O))), (9, tb mb), (10, tb w'.d.down), (11, ti (i + 1 : Nat))]
              rw [d1, hdd]
              rfl
      | cons u S' =>
        obtain ⟨hub, hul⟩ := hQ u (by simp)
        have hul := hQs u (by simp)
        refine sat_call (k_firstC u S') ?_
        rintro r H' ⟨rfl, rfl⟩
        (conv => arg 3; whnf); repeat (first | ((with_reducible refine sat_brT ?_ ?_); rfl; conv => arg 3; whnf) | ((with_reducible refine sat_brF ?_ ?_); rfl; conv => arg 3; whnf) | ((with_reducible refine sat_eqv ?_ ?_); rfl; conv => arg 3; whnf))
        have kA := k_wappend w inv.ok u (by omega) (by have := inv.rr; have := inv.sz; omega) (by have := inv.rr; have := inv.sz; omega)
        have o := inv.apd hub hul
        generalize w.apd u = q at *
        obtain ⟨w', e⟩ := q
        dsimp only at kA o
        refine sat_call kA ?_
        rintro r H' ⟨rfl, rfl⟩
        have hal := inv.al
        have kO := k_ownR A (by omega) (fun x hx => by have := (inv.rA x hx).2; omega)
        rcases o with ⟨rfl, d1, d2, o⟩ | ⟨rfl, d1, d2, o⟩ | ⟨e0, e9, d1, o⟩
        · rw [d1]
          (conv => arg 3; whnf); repeat (first | ((with_reducible refine sat_brT ?_ ?_); rfl; conv => arg 3; whnf) | ((with_reducible refine sat_brF ?_ ?_); rfl; conv => arg 3; whnf) | ((with_reducible refine sat_eqv ?_ ?_); rfl; conv => arg 3; whnf))
          refine sat_call kO ?_
          rintro r H' ⟨rfl, rfl⟩
          (conv => arg 3; whnf); repeat (first | ((with_reducible refine sat_brT ?_ ?_); rfl; conv => arg 3; whnf) | ((with_reducible refine sat_brF ?_ ?_); rfl; conv => arg 3; whnf) | ((with_reducible refine sat_eqv ?_ ?_); rfl; conv => arg 3; whnf))
          refine sat_call (k_firstC u S') ?_
          rintro r H' ⟨rfl, rfl⟩
          (conv => arg 3; whnf); repeat (first | ((with_reducible refine sat_brT ?_ ?_); rfl; conv => arg 3; whnf) | ((with_reducible refine sat_brF ?_ ?_); rfl; conv => arg 3; whnf) | ((with_reducible refine sat_eqv ?_ ?_); rfl; conv => arg 3; whnf))
          refine sat_asrt (by first | (simp [roomy]; done) | (simp [roomy]; omega)) ?_
          (conv => arg 3; whnf); repeat (first | ((with_reducible refine sat_brT ?_ ?_); rfl; conv => arg 3; whnf) | ((with_reducible refine sat_brF ?_ ?_); rfl; conv => arg 3; whnf) | ((with_reducible refine sat_eqv ?_ ?_); rfl; conv => arg 3; whnf))
          refine sat_asrt (by simp) ?_
          refine sat_asrt (by simp [roomy]; omega) ?_
          refine sat_brT (by simp) ?_
          (conv => arg 3; whnf); repeat (first | ((with_reducible refine sat_brT ?_ ?_); rfl; conv => arg 3; whnf) | ((with_reducible refine sat_brF ?_ ?_); rfl; conv => arg 3; whnf) | ((with_reducible refine sat_eqv ?_ ?_); rfl; conv => arg 3; whnf))
          refine sat_rng (wrap64 (by omega) (by omega)) ?_
          refine sat_ret ⟨⟨i + 1, w', S, (A ++ [u]), O, mb, fs, false, fo, o, by omega⟩, ?_, rfl, by show L.length - (i + 1) < L.length - i; omega⟩
          rw [ownApp]
          show _ = [(0, AV.t (Tr.sl false 4 L)), (3, pt 0), (4, pt 2), (6, AV.t (Tr.sl fs 1 (List.map rx S))), (7, AV.t (Tr.sl false 1 (List.map rx (A ++ [u])))), (8, AV.t (Tr.sl fo 1 (List.map rx O))), (9, tb mb), (10, tb w'.d.down), (11, ti (i + 1 : Nat))]
          rw [d2]
          rfl
        · rw [d1]
          (conv => arg 3; whnf); repeat (first | ((with_reducible refine sat_brT ?_ ?_); rfl; conv => arg 3; whnf) | ((with_reducible refine sat_brF ?_ ?_); rfl; conv => arg 3; whnf) | ((with_reducible refine sat_eqv ?_ ?_); rfl; conv => arg 3; whnf))
          refine sat_call kO ?_
          rintro r H' ⟨rfl, rfl⟩
          (conv => arg 3; whnf); repeat (first | ((with_reducible refine sat_brT ?_ ?_); rfl; conv => arg 3; whnf) | ((with_reducible refine sat_brF ?_ ?_); rfl; conv => arg 3; whnf) | ((with_reducible refine sat_eqv ?_ ?_); rfl; conv => arg 3; whnf))
          refine sat_call (k_firstC u S') ?_
          rintro r H' ⟨rfl, rfl⟩
          (conv => arg 3; whnf); repeat (first | ((with_reducible refine sat_brT ?_ ?_); rfl; conv => arg 3; whnf) | ((with_reducible refine sat_brF ?_ ?_); rfl; conv => arg 3; whnf) | ((with_reducible refine sat_eqv ?_ ?_); rfl; conv => arg 3; whnf))
          refine sat_asrt (by first | (simp [roomy]; done) | (simp [roomy]; omega)) ?_
          (conv => arg 3; whnf); repeat (first | ((with_reducible refine sat_brT ?_ ?_); rfl; conv => arg 3; whnf) | ((with_reducible refine sat_brF ?_ ?_); rfl; conv => arg 3; whnf) | ((with_reducible refine sat_eqv ?_ ?_); rfl; conv => arg 3; whnf))
          refine sat_asrt (by simp) ?_
          refine sat_asrt (by simp [roomy]; omega) ?_
          refine sat_brT (by simp) ?_
          (conv => arg 3; whnf); repeat (first | ((with_reducible refine sat_brT ?_ ?_); rfl; conv => arg 3; whnf) | ((with_reducible refine sat_brF ?_ ?_); rfl; conv => arg 3; whnf) | ((with_reducible refine sat_eqv ?_ ?_); rfl; conv => arg 3; whnf))
          refine sat_rng (wrap64 (by omega) (by omega)) ?_
          refine sat_ret ⟨⟨i + 1, w', S, (A ++ [u]), O, mb, fs, false, fo, o, by omega⟩, ?_, rfl, by show L.length - (i + 1) < L.length - i; omega⟩
          rw [ownApp]
          show _ = [(0, AV.t (Tr.sl false 4 L)), (3, pt 0), (4, pt 2), (6, AV.t (Tr.sl fs 1 (List.map rx S))), (7, AV.t (Tr.sl false 1 (List.map rx (A ++ [u])))), (8, AV.t (Tr.sl fo 1 (List.map rx O))), (9, tb mb), (10, tb w'.d.down), (11, ti (i + 1 : Nat))]
          rw [d2]
          rfl
        · (conv => arg 3; whnf); repeat (first | ((with_reducible refine sat_brT ?_ ?_); rfl; conv => arg 3; whnf) | ((with_reducible refine sat_brF ?_ ?_); rfl; conv => arg 3; whnf) | ((with_reducible refine sat_eqv ?_ ?_); rfl; conv => arg 3; whnf))
          refine sat_brF (show (e == 0) = false by simpa using e0) ?_
          cases hdd : w.d.down
          · have h99 : (e == 9) = false := by
              cases h9 : (e == 9)
              · rfl
              · rw [e9 (by simpa using h9)] at hdd; cases hdd
            (conv => arg 3; whnf); repeat (first | ((with_reducible refine sat_brT ?_ ?_); rfl; conv => arg 3; whnf) | ((with_reducible refine sat_brF ?_ ?_); rfl; conv => arg 3; whnf) | ((with_reducible refine sat_eqv ?_ ?_); rfl; conv => arg 3; whnf))
            refine sat_brF h99 ?_
            (conv => arg 3; whnf); repeat (first | ((with_reducible refine sat_brT ?_ ?_); rfl; conv => arg 3; whnf) | ((with_reducible refine sat_brF ?_ ?_); rfl; conv => arg 3; whnf) | ((with_reducible refine sat_eqv ?_ ?_); rfl; conv => arg 3; whnf))
            refine sat_rng (wrap64 (by omega) (by omega)) ?_
            refine sat_ret ⟨⟨i + 1, w', S, A, O, mb, fs, fa, fo, o, by omega⟩, ?_, rfl, by show L.length - (i + 1) < L.length - i; omega⟩
            rw [h99]
            show _ = [(0, AV.t (Tr.sl false 4 L)), (3, pt 0), (4, pt 2), (6, AV.t (Tr.sl fs 1 (List.map rx S))), (7, AV.t (Tr.sl fa 1 (List.map rx A))), (8, AV.t (Tr.sl fo 1 (List.map rx O))), (9, tb mb), (10, tb w'.d.down), (11, ti (i + 1 : Nat))]
            rw [d1, hdd]
            rfl
          · (conv => arg 3; whnf); repeat (first | ((with_reducible refine sat_brT ?_ ?_); rfl; conv => arg 3; whnf) | ((with_reducible refine sat_brF ?_ ?_); rfl; conv => arg 3; whnf) | ((with_reducible refine sat_eqv ?_ ?_); rfl; conv => arg 3; whnf))
            refine sat_br (fun _ => ?_) (fun _ => ?_)
            all_goals
              (conv => arg 3; whnf); repeat (first | ((with_reducible refine sat_brT ?_ ?_); rfl; conv => arg 3; whnf) | ((with_reducible refine sat_brF ?_ ?_); rfl; conv => arg 3; whnf) | ((with_reducible refine sat_eqv ?_ ?_); rfl; conv => arg 3; whnf))
              refine sat_rng (wrap64 (by omega) (by omega)) ?_
              refine sat_ret ⟨⟨i + 1, w', S, A, O, mb, fs, fa, fo, o, by omega⟩, ?_, rfl, by show L.length - (i + 1) < L.length - i; omega⟩
              show _ = [(0, AV.t (Tr.sl false 4 L)), (3, pt 0), (4, pt 2), (6, AV.t (Tr.sl fs 1 (List.map rx S))), (7, AV.t (Tr.sl fa 1 (List.map rx A))), (8, AV.t (Tr.sl fo 1 (List.map rx O))), (9, tb mb), (10, tb w'.d.down), (11, ti (i + 1 : Nat))]
              rw [d1, hdd]
              rfl
    (conv => arg 3; whnf); repeat (first | ((with_reducible refine sat_brT ?_ ?_); rfl; conv => arg 3; whnf) | ((with_reducible refine sat_brF ?_ ?_); rfl; conv => arg 3; whnf) | ((with_reducible refine sat_eqv ?_ ?_); rfl; conv => arg 3; whnf))
    refine sat_br (fun h1 => ?_) (fun h1 => ?_)
    · have kA := k_wsync w inv.ok
      have o := inv.syn
      generalize w.syn = q at *
      obtain ⟨w', e⟩ := q
      dsimp only at kA o
      (conv => arg 3; whnf); repeat (first | ((with_reducible refine sat_brT ?_ ?_); rfl; conv => arg 3; whnf) | ((with_reducible refine sat_brF ?_ ?_); rfl; conv => arg 3; whnf) | ((with_reducible refine sat_eqv ?_ ?_); rfl; conv => arg 3; whnf))
      refine sat_call kA ?_
      rintro r H' ⟨rfl, rfl⟩
      rcases o with ⟨rfl, d1, d2, o⟩ | ⟨e0, d1, o⟩
      · rw [d1]
        (conv => arg 3; whnf); repeat (first | ((with_reducible refine sat_brT ?_ ?_); rfl; conv => arg 3; whnf) | ((with_reducible refine sat_brF ?_ ?_); rfl; conv => arg 3; whnf) | ((with_reducible refine sat_eqv ?_ ?_); rfl; conv => arg 3; whnf))
        refine sat_rng (wrap64 (by omega) (by omega)) ?_
        refine sat_ret ⟨⟨i + 1, w', A, A, O, mb, fa, fa, fo, o, by omega⟩, ?_, rfl, by show L.length - (i + 1) < L.length - i; omega⟩
        show _ = [(0, AV.t (Tr.sl false 4 L)), (3, pt 0), (4, pt 2), (6, AV.t (Tr.sl fa 1 (List.map rx A))), (7, AV.t (Tr.sl fa 1 (List.map rx A))), (8, AV.t (Tr.sl fo 1 (List.map rx O))), (9, tb mb), (10, tb w'.d.down), (11, ti (i + 1 : Nat))]
        rw [d2]
        rfl
      · (conv => arg 3; whnf); repeat (first | ((with_reducible refine sat_brT ?_ ?_); rfl; conv => arg 3; whnf) | ((with_reducible refine sat_brF ?_ ?_); rfl; conv => arg 3; whnf) | ((with_reducible refine sat_eqv ?_ ?_); rfl; conv => arg 3; whnf))
        refine sat_brF (show (e == 0) = false by simpa using e0) ?_
        cases hdd : w.d.down
        all_goals
          (conv => arg 3; whnf); repeat (first | ((with_reducible refine sat_brT ?_ ?_); rfl; conv => arg 3; whnf) | ((with_reducible refine sat_brF ?_ ?_); rfl; conv => arg 3; whnf) | ((with_reducible refine sat_eqv ?_ ?_); rfl; conv => arg 3; whnf))
          refine sat_rng (wrap64 (by omega) (by omega)) ?_
          refine sat_ret ⟨⟨i + 1, w', S, A, O, mb, fs, fa, fo, o, by omega⟩, ?_, rfl, by show L.length - (i + 1) < L.length - i; omega⟩
          show _ = [(0, AV.t (Tr.sl false 4 L)), (3, pt 0), (4, pt 2), (6, AV.t (Tr.sl fs 1 (List.map rx S))), (7, AV.t (Tr.sl fa 1 (List.map rx A))), (8, AV.t (Tr.sl fo 1 (List.map rx O))), (9, tb mb), (10, tb w'.d.down), (11, ti (i + 1 : Nat))]
          rw [d1, hdd]
          rfl
    (conv => arg 3; whnf); repeat (first | ((with_reducible refine sat_brT ?_ ?_); rfl; conv => arg 3; whnf) | ((with_reducible refine sat_brF ?_ ?_); rfl; conv => arg 3; whnf) | ((with_reducible refine sat_eqv ?_ ?_); rfl; conv => arg 3; whnf))
    have hRl : Rlong Q = false := List.any_eq_false.2 fun x hx => by
      have := hQs x hx
      have h9 : ¬ ((x.length : Int) > 1048576) := by omega
      simpa using h9
    have hQR : AllR Q := fun x hx => ⟨(hQ x hx).1, by have := hQs x hx; omega⟩
    refine sat_br (fun h2 => ?_) (fun h2 => ?_)
    · have kA := k_wreplace w inv.ok Q (allR_formsB hQR) (fun x hx => (hQ x hx).1) (by omega)
      have o := inv.rep hQR hRl hQL
      have kO := k_ownR Q (by omega) (fun x hx => by have := hQs x hx; omega)
      generalize w.rep Q = q at *
      obtain ⟨w', e⟩ := q
      dsimp only at kA o
      (conv => arg 3; whnf); repeat (first | ((with_reducible refine sat_brT ?_ ?_); rfl; conv => arg 3; whnf) | ((with_reducible refine sat_brF ?_ ?_); rfl; conv => arg 3; whnf) | ((with_reducible refine sat_eqv ?_ ?_); rfl; conv => arg 3; whnf))
      refine sat_call kA ?_
      rintro r H' ⟨rfl, rfl⟩
      rcases o with ⟨rfl, d1, d2, o⟩ | ⟨e0, d1, d2, o⟩ | ⟨e0, d1, d2, o⟩
      · rw [d1]
        (conv => arg 3; whnf); repeat (first | ((with_reducible refine sat_brT ?_ ?_); rfl; conv => arg 3; whnf) | ((with_reducible refine sat_brF ?_ ?_); rfl; conv => arg 3; whnf) | ((with_reducible refine sat_eqv ?_ ?_); rfl; conv => arg 3; whnf))
        refine sat_call kO ?_
        rintro r H' ⟨rfl, rfl⟩
        (conv => arg 3; whnf); repeat (first | ((with_reducible refine sat_brT ?_ ?_); rfl; conv => arg 3; whnf) | ((with_reducible refine sat_brF ?_ ?_); rfl; conv => arg 3; whnf) | ((with_reducible refine sat_eqv ?_ ?_); rfl; conv => arg 3; whnf))
        refine sat_call kO ?_
        rintro r H' ⟨rfl, rfl⟩
        (conv => arg 3; whnf); repeat (first | ((with_reducible refine sat_brT ?_ ?_); rfl; conv => arg 3; whnf) | ((with_reducible refine sat_brF ?_ ?_); rfl; conv => arg 3; whnf) | ((with_reducible refine sat_eqv ?_ ?_); rfl; conv => arg 3; whnf))
        refine sat_rng (wrap64 (by omega) (by omega)) ?_
        refine sat_ret ⟨⟨i + 1, w', Q, Q, O, mb, false, false, fo, o, by omega⟩, ?_, rfl, by show L.length - (i + 1) < L.length - i; omega⟩
        rw [ownQ]
        show _ = [(0, AV.t (Tr.sl false 4 L)), (3, pt 0), (4, pt 2), (6, AV.t (Tr.sl false 1 (List.map rx Q))), (7, AV.t (Tr.sl false 1 (List.map rx Q))), (8, AV.t (Tr.sl fo 1 (List.map rx O))), (9, tb mb), (10, tb w'.d.down), (11, ti (i + 1 : Nat))]
        rw [d2]
        rfl
      · (conv => arg 3; whnf); repeat (first | ((with_reducible refine sat_brT ?_ ?_); rfl; conv => arg 3; whnf) | ((with_reducible refine sat_brF ?_ ?_); rfl; conv => arg 3; whnf) | ((with_reducible refine sat_eqv ?_ ?_); rfl; conv => arg 3; whnf))
        refine sat_brF (show (e == 0) = false by simpa using e0) ?_
        rw [d1]
        (conv => arg 3; whnf); repeat (first | ((with_reducible refine sat_brT ?_ ?_); rfl; conv => arg 3; whnf) | ((with_reducible refine sat_brF ?_ ?_); rfl; conv => arg 3; whnf) | ((with_reducible refine sat_eqv ?_ ?_); rfl; conv => arg 3; whnf))
        refine sat_call kO ?_
        rintro r H' ⟨rfl, rfl⟩
        (conv => arg 3; whnf); repeat (first | ((with_reducible refine sat_brT ?_ ?_); rfl; conv => arg 3; whnf) | ((with_reducible refine sat_brF ?_ ?_); rfl; conv => arg 3; whnf) | ((with_reducible refine sat_eqv ?_ ?_); rfl; conv => arg 3; whnf))
        refine sat_rng (wrap64 (by omega) (by omega)) ?_
        refine sat_ret ⟨⟨i + 1, w', S, A, Q, true, fs, fa, false, o, by omega⟩, ?_, rfl, by show L.length - (i + 1) < L.length - i; omega⟩
        rw [ownQ]
        show _ = [(0, AV.t (Tr.sl false 4 L)), (3, pt 0), (4, pt 2), (6, AV.t (Tr.sl fs 1 (List.map rx S))), (7, AV.t (Tr.sl fa 1 (List.map rx A))), (8, AV.t (Tr.sl false 1 (List.map rx Q))), (9, tb true), (10, tb w'.d.down), (11, ti (i + 1 : Nat))]
        rw [d2]
        rfl
      · (conv => arg 3; whnf); repeat (first | ((with_reducible refine sat_brT ?_ ?_); rfl; conv => arg 3; whnf) | ((with_reducible refine sat_brF ?_ ?_); rfl; conv => arg 3; whnf) | ((with_reducible refine sat_eqv ?_ ?_); rfl; conv => arg 3; whnf))
        refine sat_brF (show (e == 0) = false by simpa using e0) ?_
        rw [d1]
        (conv => arg 3; whnf); repeat (first | ((with_reducible refine sat_brT ?_ ?_); rfl; conv => arg 3; whnf) | ((with_reducible refine sat_brF ?_ ?_); rfl; conv => arg 3; whnf) | ((with_reducible refine sat_eqv ?_ ?_); rfl; conv => arg 3; whnf))
        refine sat_rng (wrap64 (by omega) (by omega)) ?_
        refine sat_ret ⟨⟨i + 1, w', S, A, O, mb, fs, fa, fo, o, by omega⟩, ?_, rfl, by show L.length - (i + 1) < L.length - i; omega⟩
        show _ = [(0, AV.t (Tr.sl false 4 L)), (3, pt 0), (4, pt 2), (6, AV.t (Tr.sl fs 1 (List.map rx S))), (7, AV.t (Tr.sl fa 1 (List.map rx A))), (8, AV.t (Tr.sl fo 1 (List.map rx O))), (9, tb mb), (10, tb w'.d.down), (11, ti (i + 1 : Nat))]
        rw [d2]
        rfl
    (conv => arg 3; whnf); repeat (first | ((with_reducible refine sat_brT ?_ ?_); rfl; conv => arg 3; whnf) | ((with_reducible refine sat_brF ?_ ?_); rfl; conv => arg 3; whnf) | ((with_reducible refine sat_eqv ?_ ?_); rfl; conv => arg 3; whnf))
    refine sat_br (fun h3 => ?_) (fun h3 => ?_)
    · (conv => arg 3; whnf); repeat (first | ((with_reducible refine sat_brT ?_ ?_); rfl; conv => arg 3; whnf) | ((with_reducible refine sat_brF ?_ ?_); rfl; conv => arg 3; whnf) | ((with_reducible refine sat_eqv ?_ ?_); rfl; conv => arg 3; whnf))
      refine sat_call (k_fuse w.d n dn) ?_
      rintro r H' ⟨rfl, rfl⟩
      (conv => arg 3; whnf); repeat (first | ((with_reducible refine sat_brT ?_ ?_); rfl; conv => arg 3; whnf) | ((with_reducible refine sat_brF ?_ ?_); rfl; conv => arg 3; whnf) | ((with_reducible refine sat_eqv ?_ ?_); rfl; conv => arg 3; whnf))
      refine sat_rng (wrap64 (by omega) (by omega)) ?_
      refine sat_ret ⟨⟨i + 1, { w with d := w.d.fuseTo n dn }, S, A, O, mb, fs, fa, fo, (inv.fuse n hn dn), by omega⟩, ?_, rfl, by show L.length - (i + 1) < L.length - i; omega⟩
      show _ = [(0, AV.t (Tr.sl false 4 L)), (3, pt 0), (4, pt 2), (6, AV.t (Tr.sl fs 1 (List.map rx S))), (7, AV.t (Tr.sl fa 1 (List.map rx A))), (8, AV.t (Tr.sl fo 1 (List.map rx O))), (9, tb mb), (10, tb w.d.down), (11, ti (i + 1 : Nat))]
      rfl
    (conv => arg 3; whnf); repeat (first | ((with_reducible refine sat_brT ?_ ?_); rfl; conv => arg 3; whnf) | ((with_reducible refine sat_brF ?_ ?_); rfl; conv => arg 3; whnf) | ((with_reducible refine sat_eqv ?_ ?_); rfl; conv => arg 3; whnf))
    refine sat_br (fun h4 => ?_) (fun h4 => ?_)
    · obtain ⟨c1, c2, c3, c4, now, hnow, c5, c6⟩ := inv.open n
      have kC := k_crash w.d inv.ok n
      have kP := open_okK (w.d.crash n).1 (w.d.crash n).1.opn.1 c1 c2 (Prod.ext rfl c3) now hnow (formsL now).length rfl
      generalize (w.d.crash n).1.opn.1 = d'' at *
      generalize w.d.crash n = qc at *
      obtain ⟨d', kc⟩ := qc
      dsimp only at kC kP c1 c2 c3 c4 hnow
      (conv => arg 3; whnf); repeat (first | ((with_reducible refine sat_brT ?_ ?_); rfl; conv => arg 3; whnf) | ((with_reducible refine sat_brF ?_ ?_); rfl; conv => arg 3; whnf) | ((with_reducible refine sat_eqv ?_ ?_); rfl; conv => arg 3; whnf))
      refine sat_call kC ?_
      rintro r H' ⟨rfl, rfl⟩
      (conv => arg 3; whnf); repeat (first | ((with_reducible refine sat_brT ?_ ?_); rfl; conv => arg 3; whnf) | ((with_reducible refine sat_brF ?_ ?_); rfl; conv => arg 3; whnf) | ((with_reducible refine sat_eqv ?_ ?_); rfl; conv => arg 3; whnf))
      refine sat_call kP ?_
      rintro r H' ⟨rfl, rfl⟩
      (conv => arg 3; whnf); repeat (first | ((with_reducible refine sat_brT ?_ ?_); rfl; conv => arg 3; whnf) | ((with_reducible refine sat_brF ?_ ?_); rfl; conv => arg 3; whnf) | ((with_reducible refine sat_eqv ?_ ?_); rfl; conv => arg 3; whnf))
      have rN := c5.rR
      have hNl := c5.al
      have kR := k_records ⟨d'', now, none, (formsL now).length, false⟩ rN (by show now.length ≤ _; omega)
      refine sat_call kR ?_
      rintro r H' ⟨rfl, rfl⟩
      (conv => arg 3; whnf); repeat (first | ((with_reducible refine sat_brT ?_ ?_); rfl; conv => arg 3; whnf) | ((with_reducible refine sat_brF ?_ ?_); rfl; conv => arg 3; whnf) | ((with_reducible refine sat_eqv ?_ ?_); rfl; conv => arg 3; whnf))
      rw [ownQ]
      have hSl := inv.sl
      have hAl := inv.al
      refine sat_call (k_begins now S rN inv.rS (by omega)) ?_
      rintro r H' ⟨q1, rfl, hq1, rfl⟩
      cases q1
      · obtain ⟨rfl, hO⟩ : mb = true ∧ now = O := by
          rcases c6 with ⟨h9, _⟩ | h9
          · cases hq1.2 h9
          · exact h9
        focus
          (conv => arg 3; whnf); repeat (first | ((with_reducible refine sat_brT ?_ ?_); rfl; conv => arg 3; whnf) | ((with_reducible refine sat_brF ?_ ?_); rfl; conv => arg 3; whnf) | ((with_reducible refine sat_eqv ?_ ?_); rfl; conv => arg 3; whnf))
          refine sat_call (k_same now O rN inv.rO (by omega)) ?_
          rintro r H' ⟨q3, rfl, hq3, rfl⟩
          obtain rfl := hq3.2 hO
          (conv => arg 3; whnf); repeat (first | ((with_reducible refine sat_brT ?_ ?_); rfl; conv => arg 3; whnf) | ((with_reducible refine sat_brF ?_ ?_); rfl; conv => arg 3; whnf) | ((with_reducible refine sat_eqv ?_ ?_); rfl; conv => arg 3; whnf))
          refine sat_rng (wrap64 (by omega) (by omega)) ?_
          refine sat_ret ⟨⟨i + 1, ⟨d'', now, (formsL now).length, false⟩, now, now, O, false, false, false, fo, c5, by omega⟩, ?_, rfl, by show L.length - (i + 1) < L.length - i; omega⟩
          show _ = [(0, AV.t (Tr.sl false 4 L)), (3, pt 0), (4, pt 2), (6, AV.t (Tr.sl false 1 (List.map rx now))), (7, AV.t (Tr.sl false 1 (List.map rx now))), (8, AV.t (Tr.sl fo 1 (List.map rx O))), (9, tb false), (10, tb d''.down), (11, ti (i + 1 : Nat))]
          rw [c4]
          rfl
      · (conv => arg 3; whnf); repeat (first | ((with_reducible refine sat_brT ?_ ?_); rfl; conv => arg 3; whnf) | ((with_reducible refine sat_brF ?_ ?_); rfl; conv => arg 3; whnf) | ((with_reducible refine sat_eqv ?_ ?_); rfl; conv => arg 3; whnf))
        refine sat_call (k_begins A now inv.rA rN (by omega)) ?_
        rintro r H' ⟨q2, rfl, hq2, rfl⟩
        cases q2
        · obtain ⟨rfl, hO⟩ : mb = true ∧ now = O := by
            rcases c6 with ⟨_, h9⟩ | h9
            · cases hq2.2 h9
            · exact h9
          (conv => arg 3; whnf); repeat (first | ((with_reducible refine sat_brT ?_ ?_); rfl; conv => arg 3; whnf) | ((with_reducible refine sat_brF ?_ ?_); rfl; conv => arg 3; whnf) | ((with_reducible refine sat_eqv ?_ ?_); rfl; conv => arg 3; whnf))
          refine sat_call (k_same now O rN inv.rO (by omega)) ?_
          rintro r H' ⟨q3, rfl, hq3, rfl⟩
          obtain rfl := hq3.2 hO
          (conv => arg 3; whnf); repeat (first | ((with_reducible refine sat_brT ?_ ?_); rfl; conv => arg 3; whnf) | ((with_reducible refine sat_brF ?_ ?_); rfl; conv => arg 3; whnf) | ((with_reducible refine sat_eqv ?_ ?_); rfl; conv => arg 3; whnf))
          refine sat_rng (wrap64 (by omega) (by omega)) ?_
          refine sat_ret ⟨⟨i + 1, ⟨d'', now, (formsL now).length, false⟩, now, now, O, false, false, false, fo, c5, by omega⟩, ?_, rfl, by show L.length - (i + 1) < L.length - i; omega⟩
          show _ = [(0, AV.t (Tr.sl false 4 L)), (3, pt 0), (4, pt 2), (6, AV.t (Tr.sl false 1 (List.map rx now))), (7, AV.t (Tr.sl false 1 (List.map rx now))), (8, AV.t (Tr.sl fo 1 (List.map rx O))), (9, tb false), (10, tb d''.down), (11, ti (i + 1 : Nat))]
          rw [c4]
          rfl
        · (conv => arg 3; whnf); repeat (first | ((with_reducible refine sat_brT ?_ ?_); rfl; conv => arg 3; whnf) | ((with_reducible refine sat_brF ?_ ?_); rfl; conv => arg 3; whnf) | ((with_reducible refine sat_eqv ?_ ?_); rfl; conv => arg 3; whnf))
          refine sat_rng (wrap64 (by omega) (by omega)) ?_
          refine sat_ret ⟨⟨i + 1, ⟨d'', now, (formsL now).length, false⟩, now, now, O, false, false, false, fo, c5, by omega⟩, ?_, rfl, by show L.length - (i + 1) < L.length - i; omega⟩
          show _ = [(0, AV.t (Tr.sl false 4 L)), (3, pt 0), (4, pt 2), (6, AV.t (Tr.sl false 1 (List.map rx now))), (7, AV.t (Tr.sl false 1 (List.map rx now))), (8, AV.t (Tr.sl fo 1 (List.map rx O))), (9, tb false), (10, tb d''.down), (11, ti (i + 1 : Nat))]
          rw [c4]
          rfl
    (conv => arg 3; whnf); repeat (first | ((with_reducible refine sat_brT ?_ ?_); rfl; conv => arg 3; whnf) | ((with_reducible refine sat_brF ?_ ?_); rfl; conv => arg 3; whnf) | ((with_reducible refine sat_eqv ?_ ?_); rfl; conv => arg 3; whnf))
    refine sat_rng (wrap64 (by omega) (by omega)) ?_
    exact sat_ret ⟨⟨i + 1, w, S, A, O, mb, fs, fa, fo, inv, by omega⟩, rfl, rfl, by show L.length - (i + 1) < L.length - i; omega⟩
  · rintro ex fr' H' ⟨⟨w, rfl⟩, rfl, rfl⟩
    (conv => arg 3; whnf); repeat (first | ((with_reducible refine sat_brT ?_ ?_); rfl; conv => arg 3; whnf) | ((with_reducible refine sat_brF ?_ ?_); rfl; conv => arg 3; whnf) | ((with_reducible refine sat_eqv ?_ ?_); rfl; conv => arg 3; whnf))
    refine sat_call k_wakes ?_
    rintro r H' ⟨rfl, rfl⟩
    (conv => arg 3; whnf); repeat (first | ((with_reducible refine sat_brT ?_ ?_); rfl; conv => arg 3; whnf) | ((with_reducible refine sat_brF ?_ ?_); rfl; conv => arg 3; whnf) | ((with_reducible refine sat_eqv ?_ ?_); rfl; conv => arg 3; whnf))
    exact sat_ret rfl
end Stk
