/- WalKnown: logs that Open did not make; the limit; the chapter's rows. -/
import Derived.Test.YtmcdljgpalejaaaW8
import Derived.Test.YtmcdljgpalejaaaFiles
namespace Stk
open Go
set_option maxRecDepth 100000
set_option linter.unusedSimpArgs false
set_option linter.unusedVariables false
set_option maxHeartbeats 8000000
theorem n_real : ACalls PP GG F.disk_Disk_real [.t .nilp] [] fun r H' => r = tb false ∧ H' = [] := by
  refine K.disk_Disk_real.callsC rfl ?_
  (conv => arg 3; whnf); repeat (first | ((with_reducible refine sat_brT ?_ ?_); rfl; conv => arg 3; whnf) | ((with_reducible refine sat_brF ?_ ?_); rfl; conv => arg 3; whnf) | ((with_reducible refine sat_eqv ?_ ?_); rfl; conv => arg 3; whnf))
  exact sat_ret ⟨rfl, rfl⟩
theorem n_dready : ACalls PP GG F.disk_Disk_ready [.t .nilp, ti 0] [] fun r H' => r = ti 2 ∧ H' = [] := by
  refine K.disk_Disk_ready.callsC rfl ?_
  (conv => arg 3; whnf); repeat (first | ((with_reducible refine sat_brT ?_ ?_); rfl; conv => arg 3; whnf) | ((with_reducible refine sat_brF ?_ ?_); rfl; conv => arg 3; whnf) | ((with_reducible refine sat_eqv ?_ ?_); rfl; conv => arg 3; whnf))
  refine sat_call n_real ?_
  rintro r H' ⟨rfl, rfl⟩
  (conv => arg 3; whnf); repeat (first | ((with_reducible refine sat_brT ?_ ?_); rfl; conv => arg 3; whnf) | ((with_reducible refine sat_brF ?_ ?_); rfl; conv => arg 3; whnf) | ((with_reducible refine sat_eqv ?_ ?_); rfl; conv => arg 3; whnf))
  exact sat_ret ⟨rfl, rfl⟩
theorem n_read : ACalls PP GG F.disk_Disk_Read [.t .nilp] [] fun r H' => r = .tup [.sl 0 0 [] 0 0 none, ti 2] ∧ H' = [.row 1 []] := by
  refine K.disk_Disk_Read.callsC rfl ?_
  (conv => arg 3; whnf); repeat (first | ((with_reducible refine sat_brT ?_ ?_); rfl; conv => arg 3; whnf) | ((with_reducible refine sat_brF ?_ ?_); rfl; conv => arg 3; whnf) | ((with_reducible refine sat_eqv ?_ ?_); rfl; conv => arg 3; whnf))
  refine sat_call n_dready ?_
  rintro r H' ⟨rfl, rfl⟩
  (conv => arg 3; whnf); repeat (first | ((with_reducible refine sat_brT ?_ ?_); rfl; conv => arg 3; whnf) | ((with_reducible refine sat_brF ?_ ?_); rfl; conv => arg 3; whnf) | ((with_reducible refine sat_eqv ?_ ?_); rfl; conv => arg 3; whnf))
  exact sat_ret ⟨rfl, rfl⟩
theorem n_open : ACalls PP GG F.wal_Open [.t .nilp] [] fun r H' => r = .tup [.t .nilp, ti 2] ∧ H' = [] := by
  refine K.wal_Open.callsC rfl ?_
  (conv => arg 3; whnf); repeat (first | ((with_reducible refine sat_brT ?_ ?_); rfl; conv => arg 3; whnf) | ((with_reducible refine sat_brF ?_ ?_); rfl; conv => arg 3; whnf) | ((with_reducible refine sat_eqv ?_ ?_); rfl; conv => arg 3; whnf))
  refine sat_call n_read ?_
  rintro r H' ⟨rfl, rfl⟩
  (conv => arg 3; whnf); repeat (first | ((with_reducible refine sat_brT ?_ ?_); rfl; conv => arg 3; whnf) | ((with_reducible refine sat_brF ?_ ?_); rfl; conv => arg 3; whnf) | ((with_reducible refine sat_eqv ?_ ?_); rfl; conv => arg 3; whnf))
  exact sat_ret ⟨rfl, rfl⟩
theorem n_ready1 : ACalls PP GG F.wal_Wal_ready [.t .nilp, .sl 0 0 [] 0 1 (some 1)] [.var (.agg [.bz 1 []])] fun r H' => r = ti 2 ∧ H' = [.var (.agg [.bz 1 []])] := by
  refine K.wal_Wal_ready.callsC rfl ?_
  (conv => arg 3; whnf); repeat (first | ((with_reducible refine sat_brT ?_ ?_); rfl; conv => arg 3; whnf) | ((with_reducible refine sat_brF ?_ ?_); rfl; conv => arg 3; whnf) | ((with_reducible refine sat_eqv ?_ ?_); rfl; conv => arg 3; whnf))
  exact sat_ret ⟨rfl, rfl⟩
theorem n_ready0 : ACalls PP GG F.wal_Wal_ready [.t .nilp, .t (.sl true 1 [])] [] fun r H' => r = ti 2 ∧ H' = [] := by
  refine K.wal_Wal_ready.callsC rfl ?_
  (conv => arg 3; whnf); repeat (first | ((with_reducible refine sat_brT ?_ ?_); rfl; conv => arg 3; whnf) | ((with_reducible refine sat_brF ?_ ?_); rfl; conv => arg 3; whnf) | ((with_reducible refine sat_eqv ?_ ?_); rfl; conv => arg 3; whnf))
  exact sat_ret ⟨rfl, rfl⟩
theorem n_readyR : ACalls PP GG F.wal_Wal_ready [.t .nilp, .bz 1 []] [] fun r H' => r = ti 2 ∧ H' = [] := by
  refine K.wal_Wal_ready.callsC rfl ?_
  (conv => arg 3; whnf); repeat (first | ((with_reducible refine sat_brT ?_ ?_); rfl; conv => arg 3; whnf) | ((with_reducible refine sat_brF ?_ ?_); rfl; conv => arg 3; whnf) | ((with_reducible refine sat_eqv ?_ ?_); rfl; conv => arg 3; whnf))
  exact sat_ret ⟨rfl, rfl⟩
theorem n_append : ACalls PP GG F.wal_Wal_Append [.t .nilp, .bz 1 []] [] fun r H' => r = ti 2 ∧ H' = [] := by
  refine K.wal_Wal_Append.callsC rfl ?_
  (conv => arg 3; whnf); repeat (first | ((with_reducible refine sat_brT ?_ ?_); rfl; conv => arg 3; whnf) | ((with_reducible refine sat_brF ?_ ?_); rfl; conv => arg 3; whnf) | ((with_reducible refine sat_eqv ?_ ?_); rfl; conv => arg 3; whnf))
  refine sat_call n_ready1 ?_
  rintro r H' ⟨rfl, rfl⟩
  (conv => arg 3; whnf); repeat (first | ((with_reducible refine sat_brT ?_ ?_); rfl; conv => arg 3; whnf) | ((with_reducible refine sat_brF ?_ ?_); rfl; conv => arg 3; whnf) | ((with_reducible refine sat_eqv ?_ ?_); rfl; conv => arg 3; whnf))
  exact sat_ret ⟨rfl, rfl⟩
theorem n_sync : ACalls PP GG F.wal_Wal_Sync [.t .nilp] [] fun r H' => r = ti 2 ∧ H' = [] := by
  refine K.wal_Wal_Sync.callsC rfl ?_
  (conv => arg 3; whnf); repeat (first | ((with_reducible refine sat_brT ?_ ?_); rfl; conv => arg 3; whnf) | ((with_reducible refine sat_brF ?_ ?_); rfl; conv => arg 3; whnf) | ((with_reducible refine sat_eqv ?_ ?_); rfl; conv => arg 3; whnf))
  refine sat_call n_ready0 ?_
  rintro r H' ⟨rfl, rfl⟩
  (conv => arg 3; whnf); repeat (first | ((with_reducible refine sat_brT ?_ ?_); rfl; conv => arg 3; whnf) | ((with_reducible refine sat_brF ?_ ?_); rfl; conv => arg 3; whnf) | ((with_reducible refine sat_eqv ?_ ?_); rfl; conv => arg 3; whnf))
  exact sat_ret ⟨rfl, rfl⟩
theorem n_replace : ACalls PP GG F.wal_Wal_Replace [.t .nilp, .bz 1 []] [] fun r H' => r = ti 2 ∧ H' = [] := by
  refine K.wal_Wal_Replace.callsC rfl ?_
  (conv => arg 3; whnf); repeat (first | ((with_reducible refine sat_brT ?_ ?_); rfl; conv => arg 3; whnf) | ((with_reducible refine sat_brF ?_ ?_); rfl; conv => arg 3; whnf) | ((with_reducible refine sat_eqv ?_ ?_); rfl; conv => arg 3; whnf))
  refine sat_call n_readyR ?_
  rintro r H' ⟨rfl, rfl⟩
  (conv => arg 3; whnf); repeat (first | ((with_reducible refine sat_brT ?_ ?_); rfl; conv => arg 3; whnf) | ((with_reducible refine sat_brF ?_ ?_); rfl; conv => arg 3; whnf) | ((with_reducible refine sat_eqv ?_ ?_); rfl; conv => arg 3; whnf))
  exact sat_ret ⟨rfl, rfl⟩
theorem n_len : ACalls PP GG F.wal_Wal_Len [.t .nilp] [] fun r H' => r = ti 0 ∧ H' = [] := by
  refine K.wal_Wal_Len.callsC rfl ?_
  (conv => arg 3; whnf); repeat (first | ((with_reducible refine sat_brT ?_ ?_); rfl; conv => arg 3; whnf) | ((with_reducible refine sat_brF ?_ ?_); rfl; conv => arg 3; whnf) | ((with_reducible refine sat_eqv ?_ ?_); rfl; conv => arg 3; whnf))
  exact sat_ret ⟨rfl, rfl⟩
theorem n_records : ACalls PP GG F.wal_Wal_Records [.t .nilp] [] fun r H' => r = .sl 0 0 [] 0 0 none ∧ H' = [.row 1 []] := by
  refine K.wal_Wal_Records.callsC rfl ?_
  (conv => arg 3; whnf); repeat (first | ((with_reducible refine sat_brT ?_ ?_); rfl; conv => arg 3; whnf) | ((with_reducible refine sat_brF ?_ ?_); rfl; conv => arg 3; whnf) | ((with_reducible refine sat_eqv ?_ ?_); rfl; conv => arg 3; whnf))
  exact sat_ret ⟨rfl, rfl⟩
abbrev z0 (b : Nat) : AO := .var (.agg [.t .nilp, .sl b 0 [] 0 0 none, ti 0, tb false])
theorem z_ready1 : ACalls PP GG F.wal_Wal_ready [pt 0, .sl 2 0 [] 0 1 (some 1)] [z0 1, .row 1 [], .var (.agg [.bz 1 []])] fun r H' => r = ti 2 ∧ H' = [z0 3, .gone, .var (.agg [.bz 1 []]), .row 1 []] := by
  refine K.wal_Wal_ready.callsC rfl ?_
  (conv => arg 3; whnf); repeat (first | ((with_reducible refine sat_brT ?_ ?_); rfl; conv => arg 3; whnf) | ((with_reducible refine sat_brF ?_ ?_); rfl; conv => arg 3; whnf) | ((with_reducible refine sat_eqv ?_ ?_); rfl; conv => arg 3; whnf))
  exact sat_ret ⟨rfl, rfl⟩
theorem z_append : ACalls PP GG F.wal_Wal_Append [pt 0, .bz 1 []] [z0 1, .row 1 []] fun r H' => r = ti 2 ∧ H' = [z0 2, .gone, .row 1 []] := by
  refine K.wal_Wal_Append.callsC rfl ?_
  (conv => arg 3; whnf); repeat (first | ((with_reducible refine sat_brT ?_ ?_); rfl; conv => arg 3; whnf) | ((with_reducible refine sat_brF ?_ ?_); rfl; conv => arg 3; whnf) | ((with_reducible refine sat_eqv ?_ ?_); rfl; conv => arg 3; whnf))
  refine sat_call z_ready1 ?_
  rintro r H' ⟨rfl, rfl⟩
  (conv => arg 3; whnf); repeat (first | ((with_reducible refine sat_brT ?_ ?_); rfl; conv => arg 3; whnf) | ((with_reducible refine sat_brF ?_ ?_); rfl; conv => arg 3; whnf) | ((with_reducible refine sat_eqv ?_ ?_); rfl; conv => arg 3; whnf))
  exact sat_ret ⟨rfl, rfl⟩
theorem z_len : ACalls PP GG F.wal_Wal_Len [pt 0] [z0 1, .row 1 []] fun r H' => r = ti 0 ∧ H' = [z0 2, .gone, .row 1 []] := by
  refine K.wal_Wal_Len.callsC rfl ?_
  (conv => arg 3; whnf); repeat (first | ((with_reducible refine sat_brT ?_ ?_); rfl; conv => arg 3; whnf) | ((with_reducible refine sat_brF ?_ ?_); rfl; conv => arg 3; whnf) | ((with_reducible refine sat_eqv ?_ ?_); rfl; conv => arg 3; whnf))
  exact sat_ret ⟨rfl, rfl⟩
/-! the disk and the log, step by step -/
abbrev D0 : Dk := ⟨false, false, [], 0, 0, 0⟩
theorem D0_ok : D0.OK := ⟨by decide, by decide, by decide, by decide, by decide, by decide⟩
abbrev OpenR (d : Dk) (R : List (List Tr)) (n : Nat) (r : AV) (H' : Hp) : Prop := r = .tup [pt 3, ti 0] ∧ H' = d.H' ++ [wv 0 4 R none n false, .row 1 (R.map rx)]
theorem open_ok (d d' : Dk) (hd : d.OK) (hb : AllB d.xs) (ho : d.opn = (d', 0)) (R : List (List Tr)) (hR : records d.cont = R) (n : Nat) (hn : (formsL R).length = n) : ACalls PP GG F.wal_Open [pt 0] d.H (OpenR d' R n) := by
  have h := k_open d hd hb
  rw [ho, hR, hn] at h
  refine h.mono ?_
  rintro r H' (⟨h1, -⟩ | ⟨-, h2, h3⟩)
  · exact absurd rfl h1
  · exact ⟨h2, h3⟩
def longB (big : List Tr) : List Tr := u8 1 :: u8 0 :: u8 16 :: u8 0 :: u8 0 :: big
theorem long_rec (big : List Tr) : records (longB big) = [] := by
  unfold longB
  exact records_stop (n := 1048577) (by decide) (by omega)
abbrev DL (big : List Tr) : Dk := ⟨false, false, longB big, (longB big).length, (longB big).length, 0⟩
theorem DL_opn {big : List Tr} (hb : big.length = 1048576) : (DL big).opn = (D0, 0) := by
  have hc : (DL big).cont = longB big := by simp [Dk.cont]
  unfold Dk.opn
  rw [if_neg (by simp), hc, long_rec, if_pos (by simp [formsL_nil, longB])]
  rw [rep0 rfl rfl (by simp [formsL_nil])]
  rfl
abbrev W0 : Lg := ⟨D0, [], 0, false⟩
abbrev W1 (big : List Tr) : Lg := ⟨⟨false, false, formB big, 1048580, 0, 0⟩, [big], 1048580, false⟩
theorem rdy_long (w : Lg) : w.rdy true = (w, 3) := rfl
theorem apd_long {w : Lg} {xs : List Tr} (h : xs.length > 1048576) : w.apd xs = (w, 3) := by
  have e : decide ((xs.length : Int) > 1048576) = true := by simp; omega
  unfold Lg.apd
  rw [e, rdy_long, if_pos (by show (3 : Int) ≠ 0; decide)]
theorem apd_1 {big : List Tr} (h : big.length = 1048576) : W0.apd big = (W1 big, 0) := by
  have e : decide ((big.length : Int) > 1048576) = false := by simp; omega
  have hl := formB_len big
  have ha : D0.append (formB big) = (⟨false, false, formB big, 1048580, 0, 0⟩, 0) := by
    have hr : D0.ready (((0 : Nat) : Int) + (formB big).length) = 0 := by unfold Dk.ready; rw [if_neg (by simp), if_neg (by omega)]
    unfold Dk.append
    rw [if_pos hr]
    unfold Dk.change
    rw [if_pos rfl]
    unfold Dk.put
    simp only [List.take_nil, List.nil_append, hl, h]
  unfold Lg.apd
  rw [e]
  have hr : (W0.rdy false).2 = 0 := rfl
  rw [if_neg (by simp [hr]), ha, if_pos rfl]
  simp only [Lg.tell, Lg.chk, List.nil_append, h]
  rfl
abbrev q12 : List Tr := [u8 1, u8 2]
abbrev q3 : List Tr := [u8 3]
abbrev q9 : List Tr := [u8 9]
abbrev q88 : List Tr := [u8 8, u8 8]
abbrev F2 : List Tr := [u8 2, u8 0, u8 0, u8 0, u8 1, u8 2]
abbrev F3 : List Tr := [u8 2, u8 0, u8 0, u8 0, u8 1, u8 2, u8 1, u8 0, u8 0, u8 0, u8 3]
abbrev F5 : List Tr := [u8 1, u8 0, u8 0, u8 0, u8 9, u8 2, u8 0, u8 0, u8 0, u8 8, u8 8]
abbrev W2 : Lg := ⟨⟨false, false, F2, 6, 6, 0⟩, [q12], 6, false⟩
theorem rep_2 (big : List Tr) : (W1 big).rep [q12] = (W2, 0) := by
  have hf : formsL [q12] = F2 := rfl
  have hr : ((W1 big).rdy (Rlong [q12])).2 = 0 := rfl
  have ha : (W1 big).d.replace F2 = (⟨false, false, F2, 6, 6, 0⟩, 0) := by rw [rep0 rfl rfl (by decide)]; rfl
  unfold Lg.rep
  rw [if_neg (by simp [hr]), hf, ha, if_pos rfl]
  rfl
abbrev W3 : Lg := ⟨⟨false, false, F3, 11, 6, 0⟩, [q12, q3], 11, false⟩
theorem apd_3 : W2.apd q3 = (W3, 0) := rfl
abbrev W4 : Lg := ⟨⟨false, true, F3, 11, 6, 1⟩, [q12, q3], 11, false⟩
theorem fuse_4 : W3.d.fuseTo 1 true = W4.d := rfl
theorem rep_long {w : Lg} {xs : List Tr} (h : xs.length > 1048576) : w.rep [xs] = (w, 3) := by
  have e : Rlong [xs] = true := by simp [Rlong]; omega
  unfold Lg.rep
  rw [e, rdy_long, if_pos (by show (3 : Int) ≠ 0; decide)]
abbrev W5 : Lg := ⟨⟨true, true, F5, 11, 11, 0⟩, [q12, q3], 11, true⟩
theorem rep_5 : W4.rep [q9, q88] = (W5, 9) := rfl
theorem syn_5 : W5.syn = (W5, 9) := rfl
abbrev W6 : Lg := ⟨⟨false, true, F5, 11, 11, 0⟩, [q12, q3], 11, true⟩
theorem crash_6 : W5.d.crash 0 = (W6.d, 0) := rfl
theorem apd_6 : W6.apd [] = (W6, 9) := rfl
theorem opn_6 : W6.d.opn = (W6.d, 0) := rfl
theorem rec_6 : records W6.d.cont = [q9, q88] := rfl
end Stk
