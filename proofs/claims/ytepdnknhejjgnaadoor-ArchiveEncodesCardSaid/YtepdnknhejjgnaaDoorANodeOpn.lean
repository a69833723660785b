/- A node that comes in is opened: its printed value, as short as its reach says. -/
import Derived.Test.YtepdnknhejjgnaaDoorAOpn
import Derived.Test.YtepdnknhejjgnaaDoorANd
namespace Go.Proofs.YtepdnknhejjgnaaDoor
open Go.RowKit Go.Proofs.YtepdnknhejjgnaaDoor.QArchiveEncodes Go.Proofs.YtepdnknhejjgnaaDoorW.PrintWords
theorem fitsL_of : ∀ {l : List S26}, (∀ x ∈ l, fits x) → fitsL l
  | [], _ => by rw [fitsL]; trivial
  | x :: l, h => by rw [fitsL]; exact ⟨h x List.mem_cons_self, fitsL_of fun y hy => h y (List.mem_cons_of_mem _ hy)⟩
theorem node_sizes : Tryd.prog.cellsOf 5 = 1 ∧ Tryd.prog.cellsOf 9 = 1 ∧ Tryd.prog.cellsOf 26 = 5 ∧ Tryd.prog.bytesOf 5 = 1 ∧ Tryd.prog.bytesOf 9 = 16 ∧ Tryd.prog.bytesOf 26 = 88 := by
  refine ⟨?_, ?_, ?_, ?_, ?_, ?_⟩ <;> kernel_rfl
theorem node_opn (fuel : Nat) : Opn Tryd.prog k26 26 fits fuel := by
  induction fuel using Nat.strongRecOn with
  | _ fuel ih =>
  obtain ⟨z1, z2, z3, b1, b2, b3⟩ := node_sizes
  refine opn_struct (fts := [3, 4, 22, 23, 24]) Tryd.underlying26 rfl (by kernel_rfl) (by kernel_rfl) (fun n hn => ?_)
  have h2 := opn_slice (d := Kd.int .u8) (fuel := n) Tryd.underlying22 (by rw [z1]; rfl) (fun m _ => opn_int Tryd.underlying5 m)
  have h3 := opn_slice (d := Kd.string) (fuel := n) Tryd.underlying23 (by rw [z2]; rfl) (fun m _ => opn_string Tryd.underlying9 m)
  have h4 := opn_slice (d := k26) (fuel := n) Tryd.underlying24 (by rw [z3]; rfl) (fun m hm => ih m (by omega))
  have hs := opnFs_cons (opn_int Tryd.underlying3 n) (opnFs_cons (opn_bool Tryd.underlying4 n) (opnFs_cons h2 (opnFs_cons h3 (opnFs_one h4))))
  intro H enc w base spare held cs ys a b c e
  obtain ⟨⟨f0, f1, f2, f3, f4⟩, hk, _, _, ho2, ho3, ho4⟩ := hs H enc w base spare held cs ys a b c e
  obtain ⟨_, _, rfl, h0, _, _, rfl, h1, _, _, rfl, ⟨A2, c2, rfl, l2, g2⟩, _, _, rfl, ⟨A3, c3, rfl, l3, g3⟩, ⟨A4, c4, rfl, l4, g4⟩⟩ := hk
  cases h0
  cases h1
  rw [b1] at ho2
  rw [b2] at ho3
  rw [b3] at ho4
  obtain ⟨o2, _⟩ := ho2
  obtain ⟨o3, p3⟩ := ho3
  obtain ⟨o4, p4⟩ := ho4
  exact ⟨⟨f0, f1, f2, f3, f4⟩, k26_mk w _ l2 g2 l3 g3 l4 g4, (fits_eq _).2 ⟨by simpa using o2, ⟨by simp only [] at o3 ⊢; omega, p3⟩, by simp only [] at o4 ⊢; omega, fitsL_of p4⟩⟩
end Go.Proofs.YtepdnknhejjgnaaDoor
