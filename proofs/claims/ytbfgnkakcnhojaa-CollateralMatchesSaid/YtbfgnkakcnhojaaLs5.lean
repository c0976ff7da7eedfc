/-
  A copy by append onto an empty slice that was built, at a step of a region that draws its order.
-/
import Derived.Test.YtbfgnkakcnhojaaKb
namespace Go.Proofs.Ytbfgnkakcnhojaa.Ls
open Go.RowKit Go.Proofs.Ytbfgnkakcnhojaa
section
variable {P : Program}
theorem step_append_copy {α : Type} {w : World} {ops : Array Oper} {o : Oper} {a : Act} {K : Act → World → Prop} {Q : Exit → Act → World → Prop} {E : Prop} (hgd : o.guard = none) (s x : Operand) (t : TypeId)
    (ho : o.op = .call { callee := .builtin .append, args := #[s, x], argTypes := #[t, t] })
    (T : TypeId) (z : Value) (k bytes : Nat) (ht : P.underlying t = some (.slice T)) (hi : (P.info? T).map (fun i => (i.zero, i.size, i.bytes)) = some (some z, k, bytes)) (hz : z.cells.size = k) (hk0 : 0 < k)
    (B g : Nat) (f : α → List Value) (hk : ∀ x, (f x).length = k) (h1 : ∀ x, ∀ u ∈ f x, u.oneCell' = true) (xs : List α) (A : Option Addr) (c : Nat) (hs : a.eval s = .slice (some ⟨g, 0, none⟩) 0 0) (n : Nat) (hn : xs.length = n) (hx : a.eval x = .slice A n c)
    (hg : w.heap[g]? = some (.cells #[] T (0, 0))) (hB : B ≤ g) (hA : AtL w k f A xs) (h63 : n ≤ maxLen) (hbytes : n * bytes ≤ 140737488355328)
    (h : ∀ a' c' w', OwnL w' B T k f (.slice a' n c') xs → w.grownBy w' (some g) → K (a.put o.dst (.slice a' n c')) w') :
    if Region.wanted o (yielded ops a.tmps) = true then Oper.wp P o a w K Q else E := by
  subst hn
  have hw : Region.wanted o (yielded ops a.tmps) = true := by simp [Region.wanted, hgd]
  rw [if_pos hw]
  obtain ⟨a', c', w', hr, h2, h3⟩ := run_append_LL (P := P) w t o.type T z k bytes ht hi hz hk0 B f hk h1 (.slice (some ⟨g, 0, none⟩) 0 0) [] xs A c (OwnL.empty hg hB) hA (fun _ => by cases A; exact .inl rfl; exact .inr ⟨_, rfl⟩) (by simpa using h63) (by simpa using hbytes) (by have := Kb.blk_lt hg; omega)
  rw [List.nil_append] at h2
  simp only [List.length_nil, Nat.zero_add] at h2 hr
  unfold Oper.wp execOp
  simp only [ho, resolve, invoke, builtin, Sem.run_bind, Sem.run_pure, Result.andThen_ok, List.map_toArray, List.map_cons, List.map_nil, hs, hx, hr]
  exact h _ _ _ h2 h3
end
end Go.Proofs.Ytbfgnkakcnhojaa.Ls
