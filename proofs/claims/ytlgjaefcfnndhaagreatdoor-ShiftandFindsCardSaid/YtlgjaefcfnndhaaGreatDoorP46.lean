/- Goroutine 0's way: a region that draws its order, in which calls that may start goroutines are made. -/
import Derived.Test.YtlgjaefcfnndhaaGreatDoorP7
import Derived.Deep.RegionHeld
set_option linter.unusedVariables false
set_option linter.unusedSimpArgs false
set_option maxHeartbeats 16000000
namespace Go.Ride
open Go.Conc Go.Pip
section
variable {P : Program} {F : Goroutine → World → Prop} {w : World} {ops : Array Oper} {md : Region.Mode} {S : World → Prop} {b : Frame} {k : List Item} {cs : List Frame}
theorem Go0.loop (hM : Mild P) {x : Code} {a : Act} (h : Go0 P F (G (b.at a (.code x :: .inLoop x :: k)) cs) w) : Go0 P F (G (b.at a (.code (.loop x) :: k)) cs) w := .step hM (fun _ _ => step_loop) h
theorem Go0.again (hM : Mild P) {x : Code} {a : Act} (h : Go0 P F (G (b.at a (.code x :: .inLoop x :: k)) cs) w) : Go0 P F (G (b.at a (.inLoop x :: k)) cs) w := .step hM (fun _ _ => step_inLoop) h
theorem Go0.exit (hM : Mild P) {id : Nat} {k' : List Item} {a : Act} (he : exitTo id k = some k') (h : Go0 P F (G (b.at a k') cs) w) : Go0 P F (G (b.at a (.code (.exit id) :: k)) cs) w := .step hM (fun _ _ => step_exit he) h
end
end Go.Ride
