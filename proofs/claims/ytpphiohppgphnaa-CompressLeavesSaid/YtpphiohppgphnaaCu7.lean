/-
  Compress, plain: the search's invariant along the iterator's prefixes; its bounds.
-/
import Derived.Test.YtpphiohppgphnaaCu5
namespace Go.Proofs.Ytpphiohppgphnaa.Cs
open Go.RowKit Go.Proofs.Ytpphiohppgphnaa Go.Proofs.Ytpphiohppgphnaa.Ls Go.Proofs.Ytpphiohppgphnaa.Kb Go.Proofs.Ytpphiohppgphnaa.Cz
open Go.Proofs.Ytpphiohppgphnaa.Nm hiding ret_bool ret_int hb'

/-- the ways that the queue holds -/
def wys (Q : List (Wy × List Nat)) : Ways := Q.map fun x => (x.1.p, x.2)
/-- the invariant behind the trades of pre -/
def InnP (l : List Tr) (c T : ByteArray) (r : List Nat) (w : ByteArray × List Nat) (pre : List Nat) (q : Ways) (seen : List ByteArray) : Prop :=
  pre <+: owL l c w.1 l.length → ∃ k, k ≤ l.length ∧ owL l c w.1 k = pre ∧ Inn l c T r w k q seen
section
variable {l : List Tr} {c T : ByteArray} {r : List Nat} {w : ByteArray × List Nat} {pre : List Nat} {q : Ways} {seen : List ByteArray} {i : Nat}
theorem innP_at (h : InnP l c T r w pre q seen) (hp : pre ++ [i] <+: owL l c w.1 l.length) : Out l c w.1 i ∧ Inn l c T r w i q seen ∧ owL l c w.1 (i + 1) = pre ++ [i] := by
  obtain ⟨ho, he⟩ := owL_step hp
  obtain ⟨k, hk, hek, hi⟩ := h ((List.prefix_append _ _).trans hp)
  have hs : owL l c w.1 (i + 1) = pre ++ [i] := by rw [owL_succ, if_pos ho.2, he]
  refine ⟨ho, ?_, hs⟩
  rcases Nat.lt_or_ge i k with g | g
  · have h1 := (owL_pre l c w.1 (show i + 1 ≤ k from g)).length_le
    rw [hs, hek, List.length_append, List.length_singleton] at h1
    omega
  · exact inn_from hi g (by rw [hek, he])
theorem innP_start (h : Inn l c T r w 0 q seen) : InnP l c T r w [] q seen := fun _ => ⟨0, Nat.zero_le _, rfl, h⟩
theorem innP_seen (h : InnP l c T r w pre q seen) (hs : (gt l (ix l i)).to_ ∈ seen) : InnP l c T r w (pre ++ [i]) q seen := fun hp => by
  obtain ⟨ho, hi, he⟩ := innP_at h hp
  rw [ix_is ho.1] at hs
  exact ⟨i + 1, ho.1, he, inn_seen hi ho hs⟩
theorem innP_push (h : InnP l c T r w pre q seen) (ht : (gt l (ix l i)).to_ ≠ T) : InnP l c T r w (pre ++ [i]) (q ++ [((gt l (ix l i)).to_, w.2 ++ [ix l i])]) (seen ++ [(gt l (ix l i)).to_]) := fun hp => by
  obtain ⟨ho, hi, he⟩ := innP_at h hp
  rw [ix_is ho.1] at ht ⊢
  exact ⟨i + 1, ho.1, he, inn_push hi ho ht⟩
theorem innP_hit (h : InnP l c T r w pre q seen) (ht : (gt l (ix l i)).to_ = T) (hp : pre ++ [i] <+: owL l c w.1 l.length) : r = w.2 ++ [ix l i] := by
  obtain ⟨ho, hi, _⟩ := innP_at h hp
  rw [ix_is ho.1] at ht ⊢
  exact inn_hit hi ho ht
theorem innP_end (h : InnP l c T r w (owL l c w.1 l.length) q seen) : Inv l c T r q seen := by
  obtain ⟨k, hk, he, hi⟩ := h (List.prefix_refl _)
  exact inn_end (inn_from hi hk he.symm)
end
/-- the search's bounds -/
structure Bnd (l : List Tr) (seen : List ByteArray) (Q : List (Wy × List Nat)) (m : Nat) : Prop where
  qf : Q.length + fresh l seen ≤ m
  sf : seen.length + fresh l seen ≤ l.length + 1
  tr : ∀ x ∈ Q, x.2.length ≤ seen.length
theorem Bnd.start (l : List Tr) (t : ByteArray) (x : Wy) (i : Nat) : Bnd l [t] [(x, [i])] (l.length + 1) := by
  have := fresh_le l [t]
  refine ⟨by simp; omega, by simp; omega, fun y hy => by rw [List.mem_singleton.1 hy]; exact Nat.le_refl _⟩
theorem Bnd.pop {l : List Tr} {seen : List ByteArray} {Q : List (Wy × List Nat)} {m : Nat} {x : Wy × List Nat} (h : Bnd l seen (x :: Q) m) : Bnd l seen Q (m - 1) ∧ 1 ≤ m ∧ x.2.length ≤ seen.length := by
  have h1 := h.qf
  rw [List.length_cons] at h1
  exact ⟨⟨by omega, h.sf, fun y hy => h.tr y (List.mem_cons_of_mem _ hy)⟩, by omega, h.tr x (List.mem_cons_self ..)⟩
theorem Bnd.push {l : List Tr} {seen : List ByteArray} {Q : List (Wy × List Nat)} {m : Nat} {x : Wy × List Nat} {i : Nat} (h : Bnd l seen Q m) (hi : i < l.length) (hs : inS seen (gt l i).to_ = false) (hx : x.2.length ≤ seen.length + 1) : Bnd l (seen ++ [(gt l i).to_]) (Q ++ [x]) m := by
  have hf := fresh_at l seen (gt l i) (gt_mem l i hi) hs
  have h1 := h.qf
  have h2 := h.sf
  refine ⟨by rw [List.length_append, List.length_singleton]; omega, by rw [List.length_append, List.length_singleton]; omega, fun y hy => ?_⟩
  rw [List.length_append, List.length_singleton]
  rcases List.mem_append.1 hy with g | g
  · have := h.tr y g; omega
  · rw [List.mem_singleton.1 g]; exact hx
theorem BkM.avoid {w0 : World} {b0 SB QB : Nat} {a : Option Addr} {n cL i : Nat} {rv : Value} {av av' : List Nat} {seen : List ByteArray} {Q : List (Wy × List Nat)} {v : World} (h : BkM w0 b0 SB QB a n cL i rv av seen Q v) (hv : ∀ b ∈ av', v.heap.size ≤ b) : BkM w0 b0 SB QB a n cL i rv av' seen Q v := by
  obtain ⟨sa, c, s1, s2, s3⟩ := h.sn
  obtain ⟨qa, d, q1, q2, q3⟩ := h.qu
  exact ⟨h.bel, h.base, h.l2, h.s3, h.r4, ⟨sa, c, s1, s2, fun b hb e => by have := (s2.lt b e).2; have := hv b hb; omega⟩, ⟨qa, d, q1, q2, fun b hb e => by have := (q2.lt b e).2; have := hv b hb; omega⟩, h.tr⟩
theorem BkM.free {w0 : World} {b0 SB QB : Nat} {a : Option Addr} {n cL i : Nat} {rv : Value} {av : List Nat} {seen : List ByteArray} {Q : List (Wy × List Nat)} {v : World} (h : BkM w0 b0 SB QB a n cL i rv av seen Q v) : BkM w0 b0 SB QB a n cL i rv [] seen Q v := by
  obtain ⟨sa, c, s1, s2, s3⟩ := h.sn
  obtain ⟨qa, d, q1, q2, q3⟩ := h.qu
  exact ⟨h.bel, h.base, h.l2, h.s3, h.r4, ⟨sa, c, s1, s2, fun b hb => by cases hb⟩, ⟨qa, d, q1, q2, fun b hb => by cases hb⟩, h.tr⟩
end Go.Proofs.Ytpphiohppgphnaa.Cs
