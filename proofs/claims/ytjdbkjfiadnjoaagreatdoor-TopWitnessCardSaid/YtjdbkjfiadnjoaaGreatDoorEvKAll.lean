/- All kinds of TopWitness. -/
import Derived.Test.YtjdbkjfiadnjoaaGreatDoorEvK00
import Derived.Test.YtjdbkjfiadnjoaaGreatDoorEvK01
import Derived.Test.YtjdbkjfiadnjoaaGreatDoorEvK02
import Derived.Test.YtjdbkjfiadnjoaaGreatDoorEvK03
import Derived.Test.YtjdbkjfiadnjoaaGreatDoorEvK04
import Derived.Test.YtjdbkjfiadnjoaaGreatDoorEvK05
import Derived.Test.YtjdbkjfiadnjoaaGreatDoorEvK06
import Derived.Test.YtjdbkjfiadnjoaaGreatDoorEvK07
import Derived.Test.YtjdbkjfiadnjoaaGreatDoorEvK08
import Derived.Test.YtjdbkjfiadnjoaaGreatDoorEvK09
import Derived.Test.YtjdbkjfiadnjoaaGreatDoorEvK10
import Derived.Test.YtjdbkjfiadnjoaaGreatDoorEvK11
import Derived.Test.YtjdbkjfiadnjoaaGreatDoorEvK12
import Derived.Test.YtjdbkjfiadnjoaaGreatDoorEvK13
import Derived.Test.YtjdbkjfiadnjoaaGreatDoorEvK14
import Derived.Test.YtjdbkjfiadnjoaaGreatDoorEvK15
import Derived.Test.YtjdbkjfiadnjoaaGreatDoorEvK16
import Derived.Test.YtjdbkjfiadnjoaaGreatDoorEvK17
import Derived.Test.YtjdbkjfiadnjoaaGreatDoorEvK18
import Derived.Test.YtjdbkjfiadnjoaaGreatDoorEvK19
import Derived.Test.YtjdbkjfiadnjoaaGreatDoorEvK20
import Derived.Test.YtjdbkjfiadnjoaaGreatDoorEvK21
import Derived.Test.YtjdbkjfiadnjoaaGreatDoorEvK22
import Derived.Test.YtjdbkjfiadnjoaaGreatDoorEvK23
namespace Go.Ev
set_option maxRecDepth 100000
def allKinds : List (Nat × Nat × Nat) := [(7, 1, 5), (3, 2, 2)] ++ ([(6, 1, 5), (3, 1, 3)] ++ ([(5, 1, 5), (4, 3, 5)] ++ ([(7, 1, 4), (4, 1, 4), (1, 1, 1)] ++ ([(4, 1, 5), (7, 3, 5)] ++ ([(7, 2, 5), (5, 1, 4)] ++ ([(6, 1, 4), (5, 2, 5), (7, 1, 1)] ++ ([(3, 1, 5), (6, 2, 5), (4, 3, 2)] ++ ([(2, 1, 5), (4, 2, 5), (5, 4, 5)] ++ ([(6, 3, 5), (7, 1, 3), (3, 1, 4)] ++ ([(7, 2, 4), (5, 3, 5), (7, 4, 5)] ++ ([(3, 2, 5), (6, 4, 5), (6, 2, 4), (3, 1, 2)] ++ ([(6, 1, 3), (5, 2, 4), (7, 3, 4), (1, 3, 5)] ++ ([(5, 1, 3), (1, 1, 5), (2, 2, 5), (3, 3, 5), (5, 1, 1)] ++ ([(4, 4, 5), (2, 1, 4), (4, 2, 4), (6, 3, 4), (6, 2, 2)] ++ ([(4, 1, 3), (2, 3, 5), (3, 4, 5), (5, 3, 4), (1, 1, 4)] ++ ([(7, 4, 4), (7, 2, 3), (3, 2, 4), (4, 3, 4), (6, 4, 4), (2, 1, 1)] ++ ([(1, 2, 5), (2, 4, 5), (6, 2, 3), (5, 4, 4), (1, 4, 5), (3, 2, 3)] ++ ([(5, 2, 3), (7, 1, 2), (2, 2, 4), (3, 3, 4), (4, 4, 4), (7, 3, 3), (1, 2, 3)] ++ ([(6, 1, 2), (2, 3, 4), (3, 4, 4), (2, 1, 3), (4, 2, 3), (6, 3, 3), (7, 4, 3), (2, 3, 3)] ++ ([(5, 1, 2), (5, 3, 3), (6, 4, 3), (1, 2, 4), (1, 3, 4), (2, 4, 4), (4, 3, 3), (5, 4, 3), (4, 1, 2)] ++ ([(1, 4, 4), (7, 2, 2), (1, 1, 3), (2, 2, 3), (3, 3, 3), (3, 4, 3), (4, 4, 3), (2, 4, 3), (5, 2, 2), (7, 3, 2), (2, 1, 2), (4, 2, 2), (1, 2, 2)] ++ ([(5, 3, 2), (6, 3, 2), (7, 4, 2), (1, 3, 3), (1, 4, 3), (5, 4, 2), (6, 4, 2), (1, 1, 2), (2, 2, 2), (2, 3, 2), (3, 3, 2), (3, 4, 2), (4, 4, 2), (6, 1, 1), (1, 3, 2), (1, 4, 2), (2, 4, 2), (4, 1, 1), (7, 2, 1), (3, 1, 1), (5, 2, 1), (6, 2, 1), (7, 3, 1), (3, 2, 1), (4, 2, 1)] ++ ([(4, 3, 1), (5, 3, 1), (5, 4, 1), (6, 3, 1), (6, 4, 1), (7, 4, 1), (1, 2, 1), (1, 3, 1), (1, 4, 1), (2, 2, 1), (2, 3, 1), (2, 4, 1), (3, 3, 1), (3, 4, 1), (4, 4, 1)])))))))))))))))))))))))
theorem seen_all : Seen allKinds 400 := seen00.app (seen01.app (seen02.app (seen03.app (seen04.app (seen05.app (seen06.app (seen07.app (seen08.app (seen09.app (seen10.app (seen11.app (seen12.app (seen13.app (seen14.app (seen15.app (seen16.app (seen17.app (seen18.app (seen19.app (seen20.app (seen21.app (seen22.app (seen23)))))))))))))))))))))))
theorem in_all : ∀ b ∈ [1, 2, 3, 4, 5, 6, 7], ∀ q ∈ [1, 2, 3, 4], ∀ c ∈ [1, 2, 3, 4, 5], (b, q, c) ∈ allKinds := by decide +kernel
theorem all_kinds (w : World) (hg : GlobOk w) (b q c : Nat) (h1 : 1 ≤ b) (h2 : b ≤ 7) (h3 : 1 ≤ q) (h4 : q ≤ 4) (h5 : 1 ≤ c) (h6 : c ≤ 5) : ∃ t, kindK b q c 400 C2 t = true := by
  have hb : b ∈ [1, 2, 3, 4, 5, 6, 7] := by simp only [List.mem_cons, List.not_mem_nil, or_false]; omega
  have hq : q ∈ [1, 2, 3, 4] := by simp only [List.mem_cons, List.not_mem_nil, or_false]; omega
  have hc : c ∈ [1, 2, 3, 4, 5] := by simp only [List.mem_cons, List.not_mem_nil, or_false]; omega
  exact seen_all w hg (b, q, c) (in_all b hb q hq c hc)
end Go.Ev
