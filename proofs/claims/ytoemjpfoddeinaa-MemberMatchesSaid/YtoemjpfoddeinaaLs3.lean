/-
  Appending a whole slice whose length has another name.
-/
import Derived.Test.YtoemjpfoddeinaaLs2
namespace Go.Proofs.Ytoemjpfoddeinaa.Ls
open Go.RowKit Go.Proofs.Ytoemjpfoddeinaa
section
variable {P : Program} (w : World)
/-- the same, the length under another name -/
theorem wpList_append_LN {α : Type} {ops : Array Oper} {rest : List Oper} {o : Oper} {a : Act} {Q : Exit → Act → World → Prop} (hgd : o.guard = none) (s x : Operand) (t : TypeId)
    (ho : o.op = .call { callee := .builtin .append, args := #[s, x], argTypes := #[t, t] })
    (T : TypeId) (z : Value) (k bytes : Nat) (ht : P.underlying t = some (.slice T)) (hi : (P.info? T).map (fun i => (i.zero, i.size, i.bytes)) = some (some z, k, bytes)) (hz : z.cells.size = k) (hk0 : 0 < k)
    (B : Nat) (f : α → List Value) (hk : ∀ x, (f x).length = k) (h1 : ∀ x, ∀ u ∈ f x, u.oneCell' = true) (v : Value) (ys xs : List α) (A : Option Addr) (c : Nat) (hs : a.eval s = v) (n : Nat) (hn : xs.length = n) (hx : a.eval x = .slice A n c)
    (hown : OwnL w B T k f v ys) (hA : AtL w k f A xs) (h63 : ys.length + xs.length ≤ maxLen) (hbytes : (ys.length + xs.length) * bytes ≤ 140737488355328) (hB : B ≤ w.heap.size)
    (h : ∀ a' c' w', OwnL w' B T k f (.slice a' (ys.length + n) c') (ys ++ xs) → w.grownBy w' v.ownBlock → wpList P ops Q rest (a.put o.dst (.slice a' (ys.length + n) c')) w') : wpList P ops Q (o :: rest) a w := by
  subst hn
  exact wpList_append_LL w hgd s x t ho T z k bytes ht hi hz hk0 B f hk h1 v ys xs A c hs hx hown hA h63 hbytes hB h
end
end Go.Proofs.Ytoemjpfoddeinaa.Ls
