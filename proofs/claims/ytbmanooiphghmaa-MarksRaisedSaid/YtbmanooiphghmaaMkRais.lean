/- The laws of MarksRaised. No condition. -/
import Derived.Test.YtbmanooiphghmaaMkFour
set_option linter.all false
set_option linter.unusedSimpArgs false
namespace Go.Proofs.Ytbmanooiphghmaa
open Go Go.Gx
/-! ### Behind Raise -/
structure RsJ (m : MSt) : Prop where
  crew : m.crew = crewI 1
  low : m.low = ⟨0, Dig.zero⟩
theorem rs_new : RsJ ⟨crewI 1, ⟨0, Dig.zero⟩, []⟩ := ⟨rfl, rfl⟩
theorem rs_step {m : MSt} (h : RsJ m) (n : Int) (x : Mark) : RsJ (voteM m n x).1 := ⟨(vote_crew m n x).1.trans h.crew, (vote_crew m n x).2.trans h.low⟩
theorem rs_rng (sq : Int) : 0 ≤ bringI sq 8 ∧ bringI sq 8 < 8 := bring_rng sq (m := 8) (by decide) (by decide)
theorem rs_raise {m : MSt} (h : RsJ m) (sq : Int) (b : UInt8) : raiseM m (markI (bringI sq 8) b) = (⟨m.crew, markI (bringI sq 8) b, m.list.map (fun p => (p.1, filt (markI (bringI sq 8) b) p.2))⟩, 0) := by
  have hr := rs_rng sq
  unfold raiseM
  rw [h.low]
  have e1 : decide ((markI (bringI sq 8) b).seq < (0 : Int)) = false := decide_eq_false (by show ¬ bringI sq 8 < 0; omega)
  have e2 : mayB (markI (bringI sq 8) b).seq = true := by
    show (decide (0 ≤ bringI sq 8) && decide (bringI sq 8 ≤ 9007199254740991)) = true
    rw [decide_eq_true (by omega : (0 : Int) ≤ bringI sq 8), decide_eq_true (by omega : bringI sq 8 ≤ (9007199254740991 : Int))]; rfl
  simp only [e1, e2, cond_false, Bool.not_true]
theorem rs_of {m : MSt} (h : RsJ m) (sq k : Int) (b : UInt8) : (mget (raiseM m (markI (bringI sq 8) b)).1.list k).getD [] = ((mget m.list k).getD []).filter (fun a => decide (bringI sq 8 < a.seq)) := by
  rw [rs_raise h]
  show (mget (m.list.map (fun p => (p.1, filt (markI (bringI sq 8) b) p.2))) k).getD [] = _
  rw [mget_map]
  cases mget m.list k with
  | none => rfl
  | some y => exact filt_rfilt _ y
theorem rs_stable {m : MSt} (h : RsJ m) (sq many : Int) (b : UInt8) (hg : (gR (lists (raiseM m (markI (bringI sq 8) b)).1) many).2 = true) : bringI sq 8 < (gR (lists (raiseM m (markI (bringI sq 8) b)).1) many).1.seq := by
  have h1 := (gR_in hg).1
  generalize (gR (lists (raiseM m (markI (bringI sq 8) b)).1) many).1 = x at h1
  rw [rs_raise h] at h1
  unfold lists at h1
  rw [List.mem_flatten] at h1
  obtain ⟨l, hl, hx⟩ := h1
  obtain ⟨p, hp, rfl⟩ := List.mem_map.1 hl
  obtain ⟨q, hq, rfl⟩ := List.mem_map.1 hp
  simp only [filt, List.mem_filter] at hx
  have := hx.2
  have h3 : ¬ x.seq ≤ bringI sq 8 := of_decide_eq_false (p := x.seq ≤ (markI (bringI sq 8) b).seq) (by
    cases hc : decide (x.seq ≤ (markI (bringI sq 8) b).seq) with
    | false => rfl
    | true => rw [hc] at this; cases this)
  omega
theorem rs_vote {m : MSt} (h : RsJ m) (sq : Int) (b : UInt8) : (voteM (raiseM m (markI (bringI sq 8) b)).1 1 (markI (bringI sq 8) b)).2 = 9 := by
  rw [rs_raise h]
  unfold voteM
  have e1 : has m.crew 1 = true := by rw [h.crew]; decide
  have e2 : decide ((markI (bringI sq 8) b).seq ≤ (markI (bringI sq 8) b).seq) = true := by simp
  simp only [e1, e2, Bool.not_true, cond_false, cond_true]
theorem rw_stepT {n : Int} {e : Mark} {y out : List Mark} {i : Nat} (h : out = (y.take i).filter (fun a => decide (n < a.seq))) (hx : y[i]? = some e) (hc : decide (n < e.seq) = true) : out ++ [e] = (y.take (i + 1)).filter (fun a => decide (n < a.seq)) := by
  rw [List.take_add_one, hx, List.filter_append, ← h]; simp [hc]
theorem rw_stepF {n : Int} {e : Mark} {y out : List Mark} {i : Nat} (h : out = (y.take i).filter (fun a => decide (n < a.seq))) (hx : y[i]? = some e) (hc : decide (n < e.seq) = false) : out = (y.take (i + 1)).filter (fun a => decide (n < a.seq)) := by
  rw [List.take_add_one, hx, List.filter_append, ← h]; simp; simpa using hc
theorem rw_len {n : Int} {y out : List Mark} {i : Nat} (hy : y.length ≤ 4) (h : out = (y.take i).filter (fun a => decide (n < a.seq))) : out.length ≤ 4 := by
  have h1 : ((y.take i).filter (fun a => decide (n < a.seq))).length ≤ (y.take i).length := List.length_filter_le _ _
  rw [h]; rw [List.length_take] at h1; omega
theorem rw_end {m : MSt} (h : RsJ m) {sq k : Int} {b : UInt8} {out : List Mark} {i : Nat} (ho : out = (((mget m.list k).getD []).take i).filter (fun a => decide (bringI sq 8 < a.seq))) (hi : decide (i < ((mget m.list k).getD []).length) = false) :
    (mget (raiseM m (markI (bringI sq 8) b)).1.list k).getD [] = out := by
  rw [rs_of h, ho, List.take_of_length_le (by have := of_decide_eq_false hi; omega)]
theorem good_len {m : MSt} {G : Gh} {o q : Obj} {l : Nat} (h : MarksO G o q l m) (k : Int) : ((mget m.list k).getD []).length ≤ 4 := by
  obtain ⟨_, _, _, _, hi⟩ := h
  exact hi.get k
end Go.Proofs.Ytbmanooiphghmaa
