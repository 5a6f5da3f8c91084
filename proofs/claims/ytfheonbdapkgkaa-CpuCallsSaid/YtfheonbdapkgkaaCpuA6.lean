/- Functions of the program: their trees, that they answer in one shape, their entries. -/
import Derived.Test.YtfheonbdapkgkaaEnts
import Derived.Test.YtfheonbdapkgkaaCpuLive
import Derived.Test.YtfheonbdapkgkaaCpuB
namespace Go.Vx
open Go Go.Proofs

def T21  (o : Int) (f : Flg) : RR :=
  bif (o == 0) then
    bif (o == 0) then
      (some (.ret (.bool (f.Z == ((bits .and .i64 o 1) == 0))) []))
    else
      bif (o == 2) then
        bif (o == 2) then
          (some (.ret (.bool (f.C == ((bits .and .i64 o 1) == 0))) []))
        else
          bif (o == 4) then
            bif (o == 4) then
              (some (.ret (.bool (f.N == ((bits .and .i64 o 1) == 0))) []))
            else
              bif (o == 6) then
                bif (o == 6) then
                  (some (.ret (.bool (f.V == ((bits .and .i64 o 1) == 0))) []))
                else
                  bif (o == 8) then
                    bif (o == 8) then
                      bif f.C then
                        (some (.ret (.bool ((!f.Z) == ((bits .and .i64 o 1) == 0))) []))
                      else
                        (some (.ret (.bool (false == ((bits .and .i64 o 1) == 0))) []))
                    else
                      bif (o == 10) then
                        bif (o == 10) then
                          (some (.ret (.bool ((f.N == f.V) == ((bits .and .i64 o 1) == 0))) []))
                        else
                          bif (o == 12) then
                            bif (o == 12) then
                              bif (!f.Z) then
                                (some (.ret (.bool ((f.N == f.V) == ((bits .and .i64 o 1) == 0))) []))
                              else
                                (some (.ret (.bool (false == ((bits .and .i64 o 1) == 0))) []))
                            else
                              bif (o == 14) then
                                (some (.ret (.bool true) []))
                              else
                                (some (.ret (.bool false) []))
                          else
                            bif (o == 13) then
                              bif (!f.Z) then
                                (some (.ret (.bool ((f.N == f.V) == ((bits .and .i64 o 1) == 0))) []))
                              else
                                (some (.ret (.bool (false == ((bits .and .i64 o 1) == 0))) []))
                            else
                              bif (o == 14) then
                                (some (.ret (.bool true) []))
                              else
                                (some (.ret (.bool false) []))
                      else
                        bif (o == 11) then
                          (some (.ret (.bool ((f.N == f.V) == ((bits .and .i64 o 1) == 0))) []))
                        else
                          bif (o == 12) then
                            bif (o == 12) then
                              bif (!f.Z) then
                                (some (.ret (.bool ((f.N == f.V) == ((bits .and .i64 o 1) == 0))) []))
                              else
                                (some (.ret (.bool (false == ((bits .and .i64 o 1) == 0))) []))
                            else
                              bif (o == 14) then
                                (some (.ret (.bool true) []))
                              else
                                (some (.ret (.bool false) []))
                          else
                            bif (o == 13) then
                              bif (!f.Z) then
                                (some (.ret (.bool ((f.N == f.V) == ((bits .and .i64 o 1) == 0))) []))
                              else
                                (some (.ret (.bool (false == ((bits .and .i64 o 1) == 0))) []))
                            else
                              bif (o == 14) then
                                (some (.ret (.bool true) []))
                              else
                                (some (.ret (.bool false) []))
                  else
                    bif (o == 9) then
                      bif f.C then
                        (some (.ret (.bool ((!f.Z) == ((bits .and .i64 o 1) == 0))) []))
                      else
                        (some (.ret (.bool (false == ((bits .and .i64 o 1) == 0))) []))
                    else
                      bif (o == 10) then
                        bif (o == 10) then
                          (some (.ret (.bool ((f.N == f.V) == ((bits .and .i64 o 1) == 0))) []))
                        else
                          bif (o == 12) then
                            bif (o == 12) then
                              bif (!f.Z) then
                                (some (.ret (.bool ((f.N == f.V) == ((bits .and .i64 o 1) == 0))) []))
                              else
                                (some (.ret (.bool (false == ((bits .and .i64 o 1) == 0))) []))
                            else
                              bif (o == 14) then
                                (some (.ret (.bool true) []))
                              else
                                (some (.ret (.bool false) []))
                          else
                            bif (o == 13) then
                              bif (!f.Z) then
                                (some (.ret (.bool ((f.N == f.V) == ((bits .and .i64 o 1) == 0))) []))
                              else
                                (some (.ret (.bool (false == ((bits .and .i64 o 1) == 0))) []))
                            else
                              bif (o == 14) then
                                (some (.ret (.bool true) []))
                              else
                                (some (.ret (.bool false) []))
                      else
                        bif (o == 11) then
                          (some (.ret (.bool ((f.N == f.V) == ((bits .and .i64 o 1) == 0))) []))
                        else
                          bif (o == 12) then
                            bif (o == 12) then
                              bif (!f.Z) then
                                (some (.ret (.bool ((f.N == f.V) == ((bits .and .i64 o 1) == 0))) []))
                              else
                                (some (.ret (.bool (false == ((bits .and .i64 o 1) == 0))) []))
                            else
                              bif (o == 14) then
                                (some (.ret (.bool true) []))
                              else
                                (some (.ret (.bool false) []))
                          else
                            bif (o == 13) then
                              bif (!f.Z) then
                                (some (.ret (.bool ((f.N == f.V) == ((bits .and .i64 o 1) == 0))) []))
                              else
                                (some (.ret (.bool (false == ((bits .and .i64 o 1) == 0))) []))
                            else
                              bif (o == 14) then
                                (some (.ret (.bool true) []))
                              else
                                (some (.ret (.bool false) []))
              else
                bif (o == 7) then
                  (some (.ret (.bool (f.V == ((bits .and .i64 o 1) == 0))) []))
                else
                  bif (o == 8) then
                    bif (o == 8) then
                      bif f.C then
                        (some (.ret (.bool ((!f.Z) == ((bits .and .i64 o 1) == 0))) []))
                      else
                        (some (.ret (.bool (false == ((bits .and .i64 o 1) == 0))) []))
                    else
                      bif (o == 10) then
                        bif (o == 10) then
                          (some (.ret (.bool ((f.N == f.V) == ((bits .and .i64 o 1) == 0))) []))
                        else
                          bif (o == 12) then
                            bif (o == 12) then
                              bif (!f.Z) then
                                (some (.ret (.bool ((f.N == f.V) == ((bits .and .i64 o 1) == 0))) []))
                              else
                                (some (.ret (.bool (false == ((bits .and .i64 o 1) == 0))) []))
                            else
                              bif (o == 14) then
                                (some (.ret (.bool true) []))
                              else
                                (some (.ret (.bool false) []))
                          else
                            bif (o == 13) then
                              bif (!f.Z) then
                                (some (.ret (.bool ((f.N == f.V) == ((bits .and .i64 o 1) == 0))) []))
                              else
                                (some (.ret (.bool (false == ((bits .and .i64 o 1) == 0))) []))
                            else
                              bif (o == 14) then
                                (some (.ret (.bool true) []))
                              else
                                (some (.ret (.bool false) []))
                      else
                        bif (o == 11) then
                          (some (.ret (.bool ((f.N == f.V) == ((bits .and .i64 o 1) == 0))) []))
                        else
                          bif (o == 12) then
                            bif (o == 12) then
                              bif (!f.Z) then
                                (some (.ret (.bool ((f.N == f.V) == ((bits .and .i64 o 1) == 0))) []))
                              else
                                (some (.ret (.bool (false == ((bits .and .i64 o 1) == 0))) []))
                            else
                              bif (o == 14) then
                                (some (.ret (.bool true) []))
                              else
                                (some (.ret (.bool false) []))
                          else
                            bif (o == 13) then
                              bif (!f.Z) then
                                (some (.ret (.bool ((f.N == f.V) == ((bits .and .i64 o 1) == 0))) []))
                              else
                                (some (.ret (.bool (false == ((bits .and .i64 o 1) == 0))) []))
                            else
                              bif (o == 14) then
                                (some (.ret (.bool true) []))
                              else
                                (some (.ret (.bool false) []))
                  else
                    bif (o == 9) then
                      bif f.C then
                        (some (.ret (.bool ((!f.Z) == ((bits .and .i64 o 1) == 0))) []))
                      else
                        (some (.ret (.bool (false == ((bits .and .i64 o 1) == 0))) []))
                    else
                      bif (o == 10) then
                        bif (o == 10) then
                          (some (.ret (.bool ((f.N == f.V) == ((bits .and .i64 o 1) == 0))) []))
                        else
                          bif (o == 12) then
                            bif (o == 12) then
                              bif (!f.Z) then
                                (some (.ret (.bool ((f.N == f.V) == ((bits .and .i64 o 1) == 0))) []))
                              else
                                (some (.ret (.bool (false == ((bits .and .i64 o 1) == 0))) []))
                            else
                              bif (o == 14) then
                                (some (.ret (.bool true) []))
                              else
                                (some (.ret (.bool false) []))
                          else
                            bif (o == 13) then
                              bif (!f.Z) then
                                (some (.ret (.bool ((f.N == f.V) == ((bits .and .i64 o 1) == 0))) []))
                              else
                                (some (.ret (.bool (false == ((bits .and .i64 o 1) == 0))) []))
                            else
                              bif (o == 14) then
                                (some (.ret (.bool true) []))
                              else
                                (some (.ret (.bool false) []))
                      else
                        bif (o == 11) then
                          (some (.ret (.bool ((f.N == f.V) == ((bits .and .i64 o 1) == 0))) []))
                        else
                          bif (o == 12) then
                            bif (o == 12) then
                              bif (!f.Z) then
                                (some (.ret (.bool ((f.N == f.V) == ((bits .and .i64 o 1) == 0))) []))
                              else
                                (some (.ret (.bool (false == ((bits .and .i64 o 1) == 0))) []))
                            else
                              bif (o == 14) then
                                (some (.ret (.bool true) []))
                              else
                                (some (.ret (.bool false) []))
                          else
                            bif (o == 13) then
                              bif (!f.Z) then
                                (some (.ret (.bool ((f.N == f.V) == ((bits .and .i64 o 1) == 0))) []))
                              else
                                (some (.ret (.bool (false == ((bits .and .i64 o 1) == 0))) []))
                            else
                              bif (o == 14) then
                                (some (.ret (.bool true) []))
                              else
                                (some (.ret (.bool false) []))
          else
            bif (o == 5) then
              (some (.ret (.bool (f.N == ((bits .and .i64 o 1) == 0))) []))
            else
              bif (o == 6) then
                bif (o == 6) then
                  (some (.ret (.bool (f.V == ((bits .and .i64 o 1) == 0))) []))
                else
                  bif (o == 8) then
                    bif (o == 8) then
                      bif f.C then
                        (some (.ret (.bool ((!f.Z) == ((bits .and .i64 o 1) == 0))) []))
                      else
                        (some (.ret (.bool (false == ((bits .and .i64 o 1) == 0))) []))
                    else
                      bif (o == 10) then
                        bif (o == 10) then
                          (some (.ret (.bool ((f.N == f.V) == ((bits .and .i64 o 1) == 0))) []))
                        else
                          bif (o == 12) then
                            bif (o == 12) then
                              bif (!f.Z) then
                                (some (.ret (.bool ((f.N == f.V) == ((bits .and .i64 o 1) == 0))) []))
                              else
                                (some (.ret (.bool (false == ((bits .and .i64 o 1) == 0))) []))
                            else
                              bif (o == 14) then
                                (some (.ret (.bool true) []))
                              else
                                (some (.ret (.bool false) []))
                          else
                            bif (o == 13) then
                              bif (!f.Z) then
                                (some (.ret (.bool ((f.N == f.V) == ((bits .and .i64 o 1) == 0))) []))
                              else
                                (some (.ret (.bool (false == ((bits .and .i64 o 1) == 0))) []))
                            else
                              bif (o == 14) then
                                (some (.ret (.bool true) []))
                              else
                                (some (.ret (.bool false) []))
                      else
                        bif (o == 11) then
                          (some (.ret (.bool ((f.N == f.V) == ((bits .and .i64 o 1) == 0))) []))
                        else
                          bif (o == 12) then
                            bif (o == 12) then
                              bif (!f.Z) then
                                (some (.ret (.bool ((f.N == f.V) == ((bits .and .i64 o 1) == 0))) []))
                              else
                                (some (.ret (.bool (false == ((bits .and .i64 o 1) == 0))) []))
                            else
                              bif (o == 14) then
                                (some (.ret (.bool true) []))
                              else
                                (some (.ret (.bool false) []))
                          else
                            bif (o == 13) then
                              bif (!f.Z) then
                                (some (.ret (.bool ((f.N == f.V) == ((bits .and .i64 o 1) == 0))) []))
                              else
                                (some (.ret (.bool (false == ((bits .and .i64 o 1) == 0))) []))
                            else
                              bif (o == 14) then
                                (some (.ret (.bool true) []))
                              else
                                (some (.ret (.bool false) []))
                  else
                    bif (o == 9) then
                      bif f.C then
                        (some (.ret (.bool ((!f.Z) == ((bits .and .i64 o 1) == 0))) []))
                      else
                        (some (.ret (.bool (false == ((bits .and .i64 o 1) == 0))) []))
                    else
                      bif (o == 10) then
                        bif (o == 10) then
                          (some (.ret (.bool ((f.N == f.V) == ((bits .and .i64 o 1) == 0))) []))
                        else
                          bif (o == 12) then
                            bif (o == 12) then
                              bif (!f.Z) then
                                (some (.ret (.bool ((f.N == f.V) == ((bits .and .i64 o 1) == 0))) []))
                              else
                                (some (.ret (.bool (false == ((bits .and .i64 o 1) == 0))) []))
                            else
                              bif (o == 14) then
                                (some (.ret (.bool true) []))
                              else
                                (some (.ret (.bool false) []))
                          else
                            bif (o == 13) then
                              bif (!f.Z) then
                                (some (.ret (.bool ((f.N == f.V) == ((bits .and .i64 o 1) == 0))) []))
                              else
                                (some (.ret (.bool (false == ((bits .and .i64 o 1) == 0))) []))
                            else
                              bif (o == 14) then
                                (some (.ret (.bool true) []))
                              else
                                (some (.ret (.bool false) []))
                      else
                        bif (o == 11) then
                          (some (.ret (.bool ((f.N == f.V) == ((bits .and .i64 o 1) == 0))) []))
                        else
                          bif (o == 12) then
                            bif (o == 12) then
                              bif (!f.Z) then
                                (some (.ret (.bool ((f.N == f.V) == ((bits .and .i64 o 1) == 0))) []))
                              else
                                (some (.ret (.bool (false == ((bits .and .i64 o 1) == 0))) []))
                            else
                              bif (o == 14) then
                                (some (.ret (.bool true) []))
                              else
                                (some (.ret (.bool false) []))
                          else
                            bif (o == 13) then
                              bif (!f.Z) then
                                (some (.ret (.bool ((f.N == f.V) == ((bits .and .i64 o 1) == 0))) []))
                              else
                                (some (.ret (.bool (false == ((bits .and .i64 o 1) == 0))) []))
                            else
                              bif (o == 14) then
                                (some (.ret (.bool true) []))
                              else
                                (some (.ret (.bool false) []))
              else
                bif (o == 7) then
                  (some (.ret (.bool (f.V == ((bits .and .i64 o 1) == 0))) []))
                else
                  bif (o == 8) then
                    bif (o == 8) then
                      bif f.C then
                        (some (.ret (.bool ((!f.Z) == ((bits .and .i64 o 1) == 0))) []))
                      else
                        (some (.ret (.bool (false == ((bits .and .i64 o 1) == 0))) []))
                    else
                      bif (o == 10) then
                        bif (o == 10) then
                          (some (.ret (.bool ((f.N == f.V) == ((bits .and .i64 o 1) == 0))) []))
                        else
                          bif (o == 12) then
                            bif (o == 12) then
                              bif (!f.Z) then
                                (some (.ret (.bool ((f.N == f.V) == ((bits .and .i64 o 1) == 0))) []))
                              else
                                (some (.ret (.bool (false == ((bits .and .i64 o 1) == 0))) []))
                            else
                              bif (o == 14) then
                                (some (.ret (.bool true) []))
                              else
                                (some (.ret (.bool false) []))
                          else
                            bif (o == 13) then
                              bif (!f.Z) then
                                (some (.ret (.bool ((f.N == f.V) == ((bits .and .i64 o 1) == 0))) []))
                              else
                                (some (.ret (.bool (false == ((bits .and .i64 o 1) == 0))) []))
                            else
                              bif (o == 14) then
                                (some (.ret (.bool true) []))
                              else
                                (some (.ret (.bool false) []))
                      else
                        bif (o == 11) then
                          (some (.ret (.bool ((f.N == f.V) == ((bits .and .i64 o 1) == 0))) []))
                        else
                          bif (o == 12) then
                            bif (o == 12) then
                              bif (!f.Z) then
                                (some (.ret (.bool ((f.N == f.V) == ((bits .and .i64 o 1) == 0))) []))
                              else
                                (some (.ret (.bool (false == ((bits .and .i64 o 1) == 0))) []))
                            else
                              bif (o == 14) then
                                (some (.ret (.bool true) []))
                              else
                                (some (.ret (.bool false) []))
                          else
                            bif (o == 13) then
                              bif (!f.Z) then
                                (some (.ret (.bool ((f.N == f.V) == ((bits .and .i64 o 1) == 0))) []))
                              else
                                (some (.ret (.bool (false == ((bits .and .i64 o 1) == 0))) []))
                            else
                              bif (o == 14) then
                                (some (.ret (.bool true) []))
                              else
                                (some (.ret (.bool false) []))
                  else
                    bif (o == 9) then
                      bif f.C then
                        (some (.ret (.bool ((!f.Z) == ((bits .and .i64 o 1) == 0))) []))
                      else
                        (some (.ret (.bool (false == ((bits .and .i64 o 1) == 0))) []))
                    else
                      bif (o == 10) then
                        bif (o == 10) then
                          (some (.ret (.bool ((f.N == f.V) == ((bits .and .i64 o 1) == 0))) []))
                        else
                          bif (o == 12) then
                            bif (o == 12) then
                              bif (!f.Z) then
                                (some (.ret (.bool ((f.N == f.V) == ((bits .and .i64 o 1) == 0))) []))
                              else
                                (some (.ret (.bool (false == ((bits .and .i64 o 1) == 0))) []))
                            else
                              bif (o == 14) then
                                (some (.ret (.bool true) []))
                              else
                                (some (.ret (.bool false) []))
                          else
                            bif (o == 13) then
                              bif (!f.Z) then
                                (some (.ret (.bool ((f.N == f.V) == ((bits .and .i64 o 1) == 0))) []))
                              else
                                (some (.ret (.bool (false == ((bits .and .i64 o 1) == 0))) []))
                            else
                              bif (o == 14) then
                                (some (.ret (.bool true) []))
                              else
                                (some (.ret (.bool false) []))
                      else
                        bif (o == 11) then
                          (some (.ret (.bool ((f.N == f.V) == ((bits .and .i64 o 1) == 0))) []))
                        else
                          bif (o == 12) then
                            bif (o == 12) then
                              bif (!f.Z) then
                                (some (.ret (.bool ((f.N == f.V) == ((bits .and .i64 o 1) == 0))) []))
                              else
                                (some (.ret (.bool (false == ((bits .and .i64 o 1) == 0))) []))
                            else
                              bif (o == 14) then
                                (some (.ret (.bool true) []))
                              else
                                (some (.ret (.bool false) []))
                          else
                            bif (o == 13) then
                              bif (!f.Z) then
                                (some (.ret (.bool ((f.N == f.V) == ((bits .and .i64 o 1) == 0))) []))
                              else
                                (some (.ret (.bool (false == ((bits .and .i64 o 1) == 0))) []))
                            else
                              bif (o == 14) then
                                (some (.ret (.bool true) []))
                              else
                                (some (.ret (.bool false) []))
      else
        bif (o == 3) then
          (some (.ret (.bool (f.C == ((bits .and .i64 o 1) == 0))) []))
        else
          bif (o == 4) then
            bif (o == 4) then
              (some (.ret (.bool (f.N == ((bits .and .i64 o 1) == 0))) []))
            else
              bif (o == 6) then
                bif (o == 6) then
                  (some (.ret (.bool (f.V == ((bits .and .i64 o 1) == 0))) []))
                else
                  bif (o == 8) then
                    bif (o == 8) then
                      bif f.C then
                        (some (.ret (.bool ((!f.Z) == ((bits .and .i64 o 1) == 0))) []))
                      else
                        (some (.ret (.bool (false == ((bits .and .i64 o 1) == 0))) []))
                    else
                      bif (o == 10) then
                        bif (o == 10) then
                          (some (.ret (.bool ((f.N == f.V) == ((bits .and .i64 o 1) == 0))) []))
                        else
                          bif (o == 12) then
                            bif (o == 12) then
                              bif (!f.Z) then
                                (some (.ret (.bool ((f.N == f.V) == ((bits .and .i64 o 1) == 0))) []))
                              else
                                (some (.ret (.bool (false == ((bits .and .i64 o 1) == 0))) []))
                            else
                              bif (o == 14) then
                                (some (.ret (.bool true) []))
                              else
                                (some (.ret (.bool false) []))
                          else
                            bif (o == 13) then
                              bif (!f.Z) then
                                (some (.ret (.bool ((f.N == f.V) == ((bits .and .i64 o 1) == 0))) []))
                              else
                                (some (.ret (.bool (false == ((bits .and .i64 o 1) == 0))) []))
                            else
                              bif (o == 14) then
                                (some (.ret (.bool true) []))
                              else
                                (some (.ret (.bool false) []))
                      else
                        bif (o == 11) then
                          (some (.ret (.bool ((f.N == f.V) == ((bits .and .i64 o 1) == 0))) []))
                        else
                          bif (o == 12) then
                            bif (o == 12) then
                              bif (!f.Z) then
                                (some (.ret (.bool ((f.N == f.V) == ((bits .and .i64 o 1) == 0))) []))
                              else
                                (some (.ret (.bool (false == ((bits .and .i64 o 1) == 0))) []))
                            else
                              bif (o == 14) then
                                (some (.ret (.bool true) []))
                              else
                                (some (.ret (.bool false) []))
                          else
                            bif (o == 13) then
                              bif (!f.Z) then
                                (some (.ret (.bool ((f.N == f.V) == ((bits .and .i64 o 1) == 0))) []))
                              else
                                (some (.ret (.bool (false == ((bits .and .i64 o 1) == 0))) []))
                            else
                              bif (o == 14) then
                                (some (.ret (.bool true) []))
                              else
                                (some (.ret (.bool false) []))
                  else
                    bif (o == 9) then
                      bif f.C then
                        (some (.ret (.bool ((!f.Z) == ((bits .and .i64 o 1) == 0))) []))
                      else
                        (some (.ret (.bool (false == ((bits .and .i64 o 1) == 0))) []))
                    else
                      bif (o == 10) then
                        bif (o == 10) then
                          (some (.ret (.bool ((f.N == f.V) == ((bits .and .i64 o 1) == 0))) []))
                        else
                          bif (o == 12) then
                            bif (o == 12) then
                              bif (!f.Z) then
                                (some (.ret (.bool ((f.N == f.V) == ((bits .and .i64 o 1) == 0))) []))
                              else
                                (some (.ret (.bool (false == ((bits .and .i64 o 1) == 0))) []))
                            else
                              bif (o == 14) then
                                (some (.ret (.bool true) []))
                              else
                                (some (.ret (.bool false) []))
                          else
                            bif (o == 13) then
                              bif (!f.Z) then
                                (some (.ret (.bool ((f.N == f.V) == ((bits .and .i64 o 1) == 0))) []))
                              else
                                (some (.ret (.bool (false == ((bits .and .i64 o 1) == 0))) []))
                            else
                              bif (o == 14) then
                                (some (.ret (.bool true) []))
                              else
                                (some (.ret (.bool false) []))
                      else
                        bif (o == 11) then
                          (some (.ret (.bool ((f.N == f.V) == ((bits .and .i64 o 1) == 0))) []))
                        else
                          bif (o == 12) then
                            bif (o == 12) then
                              bif (!f.Z) then
                                (some (.ret (.bool ((f.N == f.V) == ((bits .and .i64 o 1) == 0))) []))
                              else
                                (some (.ret (.bool (false == ((bits .and .i64 o 1) == 0))) []))
                            else
                              bif (o == 14) then
                                (some (.ret (.bool true) []))
                              else
                                (some (.ret (.bool false) []))
                          else
                            bif (o == 13) then
                              bif (!f.Z) then
                                (some (.ret (.bool ((f.N == f.V) == ((bits .and .i64 o 1) == 0))) []))
                              else
                                (some (.ret (.bool (false == ((bits .and .i64 o 1) == 0))) []))
                            else
                              bif (o == 14) then
                                (some (.ret (.bool true) []))
                              else
                                (some (.ret (.bool false) []))
              else
                bif (o == 7) then
                  (some (.ret (.bool (f.V == ((bits .and .i64 o 1) == 0))) []))
                else
                  bif (o == 8) then
                    bif (o == 8) then
                      bif f.C then
                        (some (.ret (.bool ((!f.Z) == ((bits .and .i64 o 1) == 0))) []))
                      else
                        (some (.ret (.bool (false == ((bits .and .i64 o 1) == 0))) []))
                    else
                      bif (o == 10) then
                        bif (o == 10) then
                          (some (.ret (.bool ((f.N == f.V) == ((bits .and .i64 o 1) == 0))) []))
                        else
                          bif (o == 12) then
                            bif (o == 12) then
                              bif (!f.Z) then
                                (some (.ret (.bool ((f.N == f.V) == ((bits .and .i64 o 1) == 0))) []))
                              else
                                (some (.ret (.bool (false == ((bits .and .i64 o 1) == 0))) []))
                            else
                              bif (o == 14) then
                                (some (.ret (.bool true) []))
                              else
                                (some (.ret (.bool false) []))
                          else
                            bif (o == 13) then
                              bif (!f.Z) then
                                (some (.ret (.bool ((f.N == f.V) == ((bits .and .i64 o 1) == 0))) []))
                              else
                                (some (.ret (.bool (false == ((bits .and .i64 o 1) == 0))) []))
                            else
                              bif (o == 14) then
                                (some (.ret (.bool true) []))
                              else
                                (some (.ret (.bool false) []))
                      else
                        bif (o == 11) then
                          (some (.ret (.bool ((f.N == f.V) == ((bits .and .i64 o 1) == 0))) []))
                        else
                          bif (o == 12) then
                            bif (o == 12) then
                              bif (!f.Z) then
                                (some (.ret (.bool ((f.N == f.V) == ((bits .and .i64 o 1) == 0))) []))
                              else
                                (some (.ret (.bool (false == ((bits .and .i64 o 1) == 0))) []))
                            else
                              bif (o == 14) then
                                (some (.ret (.bool true) []))
                              else
                                (some (.ret (.bool false) []))
                          else
                            bif (o == 13) then
                              bif (!f.Z) then
                                (some (.ret (.bool ((f.N == f.V) == ((bits .and .i64 o 1) == 0))) []))
                              else
                                (some (.ret (.bool (false == ((bits .and .i64 o 1) == 0))) []))
                            else
                              bif (o == 14) then
                                (some (.ret (.bool true) []))
                              else
                                (some (.ret (.bool false) []))
                  else
                    bif (o == 9) then
                      bif f.C then
                        (some (.ret (.bool ((!f.Z) == ((bits .and .i64 o 1) == 0))) []))
                      else
                        (some (.ret (.bool (false == ((bits .and .i64 o 1) == 0))) []))
                    else
                      bif (o == 10) then
                        bif (o == 10) then
                          (some (.ret (.bool ((f.N == f.V) == ((bits .and .i64 o 1) == 0))) []))
                        else
                          bif (o == 12) then
                            bif (o == 12) then
                              bif (!f.Z) then
                                (some (.ret (.bool ((f.N == f.V) == ((bits .and .i64 o 1) == 0))) []))
                              else
                                (some (.ret (.bool (false == ((bits .and .i64 o 1) == 0))) []))
                            else
                              bif (o == 14) then
                                (some (.ret (.bool true) []))
                              else
                                (some (.ret (.bool false) []))
                          else
                            bif (o == 13) then
                              bif (!f.Z) then
                                (some (.ret (.bool ((f.N == f.V) == ((bits .and .i64 o 1) == 0))) []))
                              else
                                (some (.ret (.bool (false == ((bits .and .i64 o 1) == 0))) []))
                            else
                              bif (o == 14) then
                                (some (.ret (.bool true) []))
                              else
                                (some (.ret (.bool false) []))
                      else
                        bif (o == 11) then
                          (some (.ret (.bool ((f.N == f.V) == ((bits .and .i64 o 1) == 0))) []))
                        else
                          bif (o == 12) then
                            bif (o == 12) then
                              bif (!f.Z) then
                                (some (.ret (.bool ((f.N == f.V) == ((bits .and .i64 o 1) == 0))) []))
                              else
                                (some (.ret (.bool (false == ((bits .and .i64 o 1) == 0))) []))
                            else
                              bif (o == 14) then
                                (some (.ret (.bool true) []))
                              else
                                (some (.ret (.bool false) []))
                          else
                            bif (o == 13) then
                              bif (!f.Z) then
                                (some (.ret (.bool ((f.N == f.V) == ((bits .and .i64 o 1) == 0))) []))
                              else
                                (some (.ret (.bool (false == ((bits .and .i64 o 1) == 0))) []))
                            else
                              bif (o == 14) then
                                (some (.ret (.bool true) []))
                              else
                                (some (.ret (.bool false) []))
          else
            bif (o == 5) then
              (some (.ret (.bool (f.N == ((bits .and .i64 o 1) == 0))) []))
            else
              bif (o == 6) then
                bif (o == 6) then
                  (some (.ret (.bool (f.V == ((bits .and .i64 o 1) == 0))) []))
                else
                  bif (o == 8) then
                    bif (o == 8) then
                      bif f.C then
                        (some (.ret (.bool ((!f.Z) == ((bits .and .i64 o 1) == 0))) []))
                      else
                        (some (.ret (.bool (false == ((bits .and .i64 o 1) == 0))) []))
                    else
                      bif (o == 10) then
                        bif (o == 10) then
                          (some (.ret (.bool ((f.N == f.V) == ((bits .and .i64 o 1) == 0))) []))
                        else
                          bif (o == 12) then
                            bif (o == 12) then
                              bif (!f.Z) then
                                (some (.ret (.bool ((f.N == f.V) == ((bits .and .i64 o 1) == 0))) []))
                              else
                                (some (.ret (.bool (false == ((bits .and .i64 o 1) == 0))) []))
                            else
                              bif (o == 14) then
                                (some (.ret (.bool true) []))
                              else
                                (some (.ret (.bool false) []))
                          else
                            bif (o == 13) then
                              bif (!f.Z) then
                                (some (.ret (.bool ((f.N == f.V) == ((bits .and .i64 o 1) == 0))) []))
                              else
                                (some (.ret (.bool (false == ((bits .and .i64 o 1) == 0))) []))
                            else
                              bif (o == 14) then
                                (some (.ret (.bool true) []))
                              else
                                (some (.ret (.bool false) []))
                      else
                        bif (o == 11) then
                          (some (.ret (.bool ((f.N == f.V) == ((bits .and .i64 o 1) == 0))) []))
                        else
                          bif (o == 12) then
                            bif (o == 12) then
                              bif (!f.Z) then
                                (some (.ret (.bool ((f.N == f.V) == ((bits .and .i64 o 1) == 0))) []))
                              else
                                (some (.ret (.bool (false == ((bits .and .i64 o 1) == 0))) []))
                            else
                              bif (o == 14) then
                                (some (.ret (.bool true) []))
                              else
                                (some (.ret (.bool false) []))
                          else
                            bif (o == 13) then
                              bif (!f.Z) then
                                (some (.ret (.bool ((f.N == f.V) == ((bits .and .i64 o 1) == 0))) []))
                              else
                                (some (.ret (.bool (false == ((bits .and .i64 o 1) == 0))) []))
                            else
                              bif (o == 14) then
                                (some (.ret (.bool true) []))
                              else
                                (some (.ret (.bool false) []))
                  else
                    bif (o == 9) then
                      bif f.C then
                        (some (.ret (.bool ((!f.Z) == ((bits .and .i64 o 1) == 0))) []))
                      else
                        (some (.ret (.bool (false == ((bits .and .i64 o 1) == 0))) []))
                    else
                      bif (o == 10) then
                        bif (o == 10) then
                          (some (.ret (.bool ((f.N == f.V) == ((bits .and .i64 o 1) == 0))) []))
                        else
                          bif (o == 12) then
                            bif (o == 12) then
                              bif (!f.Z) then
                                (some (.ret (.bool ((f.N == f.V) == ((bits .and .i64 o 1) == 0))) []))
                              else
                                (some (.ret (.bool (false == ((bits .and .i64 o 1) == 0))) []))
                            else
                              bif (o == 14) then
                                (some (.ret (.bool true) []))
                              else
                                (some (.ret (.bool false) []))
                          else
                            bif (o == 13) then
                              bif (!f.Z) then
                                (some (.ret (.bool ((f.N == f.V) == ((bits .and .i64 o 1) == 0))) []))
                              else
                                (some (.ret (.bool (false == ((bits .and .i64 o 1) == 0))) []))
                            else
                              bif (o == 14) then
                                (some (.ret (.bool true) []))
                              else
                                (some (.ret (.bool false) []))
                      else
                        bif (o == 11) then
                          (some (.ret (.bool ((f.N == f.V) == ((bits .and .i64 o 1) == 0))) []))
                        else
                          bif (o == 12) then
                            bif (o == 12) then
                              bif (!f.Z) then
                                (some (.ret (.bool ((f.N == f.V) == ((bits .and .i64 o 1) == 0))) []))
                              else
                                (some (.ret (.bool (false == ((bits .and .i64 o 1) == 0))) []))
                            else
                              bif (o == 14) then
                                (some (.ret (.bool true) []))
                              else
                                (some (.ret (.bool false) []))
                          else
                            bif (o == 13) then
                              bif (!f.Z) then
                                (some (.ret (.bool ((f.N == f.V) == ((bits .and .i64 o 1) == 0))) []))
                              else
                                (some (.ret (.bool (false == ((bits .and .i64 o 1) == 0))) []))
                            else
                              bif (o == 14) then
                                (some (.ret (.bool true) []))
                              else
                                (some (.ret (.bool false) []))
              else
                bif (o == 7) then
                  (some (.ret (.bool (f.V == ((bits .and .i64 o 1) == 0))) []))
                else
                  bif (o == 8) then
                    bif (o == 8) then
                      bif f.C then
                        (some (.ret (.bool ((!f.Z) == ((bits .and .i64 o 1) == 0))) []))
                      else
                        (some (.ret (.bool (false == ((bits .and .i64 o 1) == 0))) []))
                    else
                      bif (o == 10) then
                        bif (o == 10) then
                          (some (.ret (.bool ((f.N == f.V) == ((bits .and .i64 o 1) == 0))) []))
                        else
                          bif (o == 12) then
                            bif (o == 12) then
                              bif (!f.Z) then
                                (some (.ret (.bool ((f.N == f.V) == ((bits .and .i64 o 1) == 0))) []))
                              else
                                (some (.ret (.bool (false == ((bits .and .i64 o 1) == 0))) []))
                            else
                              bif (o == 14) then
                                (some (.ret (.bool true) []))
                              else
                                (some (.ret (.bool false) []))
                          else
                            bif (o == 13) then
                              bif (!f.Z) then
                                (some (.ret (.bool ((f.N == f.V) == ((bits .and .i64 o 1) == 0))) []))
                              else
                                (some (.ret (.bool (false == ((bits .and .i64 o 1) == 0))) []))
                            else
                              bif (o == 14) then
                                (some (.ret (.bool true) []))
                              else
                                (some (.ret (.bool false) []))
                      else
                        bif (o == 11) then
                          (some (.ret (.bool ((f.N == f.V) == ((bits .and .i64 o 1) == 0))) []))
                        else
                          bif (o == 12) then
                            bif (o == 12) then
                              bif (!f.Z) then
                                (some (.ret (.bool ((f.N == f.V) == ((bits .and .i64 o 1) == 0))) []))
                              else
                                (some (.ret (.bool (false == ((bits .and .i64 o 1) == 0))) []))
                            else
                              bif (o == 14) then
                                (some (.ret (.bool true) []))
                              else
                                (some (.ret (.bool false) []))
                          else
                            bif (o == 13) then
                              bif (!f.Z) then
                                (some (.ret (.bool ((f.N == f.V) == ((bits .and .i64 o 1) == 0))) []))
                              else
                                (some (.ret (.bool (false == ((bits .and .i64 o 1) == 0))) []))
                            else
                              bif (o == 14) then
                                (some (.ret (.bool true) []))
                              else
                                (some (.ret (.bool false) []))
                  else
                    bif (o == 9) then
                      bif f.C then
                        (some (.ret (.bool ((!f.Z) == ((bits .and .i64 o 1) == 0))) []))
                      else
                        (some (.ret (.bool (false == ((bits .and .i64 o 1) == 0))) []))
                    else
                      bif (o == 10) then
                        bif (o == 10) then
                          (some (.ret (.bool ((f.N == f.V) == ((bits .and .i64 o 1) == 0))) []))
                        else
                          bif (o == 12) then
                            bif (o == 12) then
                              bif (!f.Z) then
                                (some (.ret (.bool ((f.N == f.V) == ((bits .and .i64 o 1) == 0))) []))
                              else
                                (some (.ret (.bool (false == ((bits .and .i64 o 1) == 0))) []))
                            else
                              bif (o == 14) then
                                (some (.ret (.bool true) []))
                              else
                                (some (.ret (.bool false) []))
                          else
                            bif (o == 13) then
                              bif (!f.Z) then
                                (some (.ret (.bool ((f.N == f.V) == ((bits .and .i64 o 1) == 0))) []))
                              else
                                (some (.ret (.bool (false == ((bits .and .i64 o 1) == 0))) []))
                            else
                              bif (o == 14) then
                                (some (.ret (.bool true) []))
                              else
                                (some (.ret (.bool false) []))
                      else
                        bif (o == 11) then
                          (some (.ret (.bool ((f.N == f.V) == ((bits .and .i64 o 1) == 0))) []))
                        else
                          bif (o == 12) then
                            bif (o == 12) then
                              bif (!f.Z) then
                                (some (.ret (.bool ((f.N == f.V) == ((bits .and .i64 o 1) == 0))) []))
                              else
                                (some (.ret (.bool (false == ((bits .and .i64 o 1) == 0))) []))
                            else
                              bif (o == 14) then
                                (some (.ret (.bool true) []))
                              else
                                (some (.ret (.bool false) []))
                          else
                            bif (o == 13) then
                              bif (!f.Z) then
                                (some (.ret (.bool ((f.N == f.V) == ((bits .and .i64 o 1) == 0))) []))
                              else
                                (some (.ret (.bool (false == ((bits .and .i64 o 1) == 0))) []))
                            else
                              bif (o == 14) then
                                (some (.ret (.bool true) []))
                              else
                                (some (.ret (.bool false) []))
  else
    bif (o == 1) then
      (some (.ret (.bool (f.Z == ((bits .and .i64 o 1) == 0))) []))
    else
      bif (o == 2) then
        bif (o == 2) then
          (some (.ret (.bool (f.C == ((bits .and .i64 o 1) == 0))) []))
        else
          bif (o == 4) then
            bif (o == 4) then
              (some (.ret (.bool (f.N == ((bits .and .i64 o 1) == 0))) []))
            else
              bif (o == 6) then
                bif (o == 6) then
                  (some (.ret (.bool (f.V == ((bits .and .i64 o 1) == 0))) []))
                else
                  bif (o == 8) then
                    bif (o == 8) then
                      bif f.C then
                        (some (.ret (.bool ((!f.Z) == ((bits .and .i64 o 1) == 0))) []))
                      else
                        (some (.ret (.bool (false == ((bits .and .i64 o 1) == 0))) []))
                    else
                      bif (o == 10) then
                        bif (o == 10) then
                          (some (.ret (.bool ((f.N == f.V) == ((bits .and .i64 o 1) == 0))) []))
                        else
                          bif (o == 12) then
                            bif (o == 12) then
                              bif (!f.Z) then
                                (some (.ret (.bool ((f.N == f.V) == ((bits .and .i64 o 1) == 0))) []))
                              else
                                (some (.ret (.bool (false == ((bits .and .i64 o 1) == 0))) []))
                            else
                              bif (o == 14) then
                                (some (.ret (.bool true) []))
                              else
                                (some (.ret (.bool false) []))
                          else
                            bif (o == 13) then
                              bif (!f.Z) then
                                (some (.ret (.bool ((f.N == f.V) == ((bits .and .i64 o 1) == 0))) []))
                              else
                                (some (.ret (.bool (false == ((bits .and .i64 o 1) == 0))) []))
                            else
                              bif (o == 14) then
                                (some (.ret (.bool true) []))
                              else
                                (some (.ret (.bool false) []))
                      else
                        bif (o == 11) then
                          (some (.ret (.bool ((f.N == f.V) == ((bits .and .i64 o 1) == 0))) []))
                        else
                          bif (o == 12) then
                            bif (o == 12) then
                              bif (!f.Z) then
                                (some (.ret (.bool ((f.N == f.V) == ((bits .and .i64 o 1) == 0))) []))
                              else
                                (some (.ret (.bool (false == ((bits .and .i64 o 1) == 0))) []))
                            else
                              bif (o == 14) then
                                (some (.ret (.bool true) []))
                              else
                                (some (.ret (.bool false) []))
                          else
                            bif (o == 13) then
                              bif (!f.Z) then
                                (some (.ret (.bool ((f.N == f.V) == ((bits .and .i64 o 1) == 0))) []))
                              else
                                (some (.ret (.bool (false == ((bits .and .i64 o 1) == 0))) []))
                            else
                              bif (o == 14) then
                                (some (.ret (.bool true) []))
                              else
                                (some (.ret (.bool false) []))
                  else
                    bif (o == 9) then
                      bif f.C then
                        (some (.ret (.bool ((!f.Z) == ((bits .and .i64 o 1) == 0))) []))
                      else
                        (some (.ret (.bool (false == ((bits .and .i64 o 1) == 0))) []))
                    else
                      bif (o == 10) then
                        bif (o == 10) then
                          (some (.ret (.bool ((f.N == f.V) == ((bits .and .i64 o 1) == 0))) []))
                        else
                          bif (o == 12) then
                            bif (o == 12) then
                              bif (!f.Z) then
                                (some (.ret (.bool ((f.N == f.V) == ((bits .and .i64 o 1) == 0))) []))
                              else
                                (some (.ret (.bool (false == ((bits .and .i64 o 1) == 0))) []))
                            else
                              bif (o == 14) then
                                (some (.ret (.bool true) []))
                              else
                                (some (.ret (.bool false) []))
                          else
                            bif (o == 13) then
                              bif (!f.Z) then
                                (some (.ret (.bool ((f.N == f.V) == ((bits .and .i64 o 1) == 0))) []))
                              else
                                (some (.ret (.bool (false == ((bits .and .i64 o 1) == 0))) []))
                            else
                              bif (o == 14) then
                                (some (.ret (.bool true) []))
                              else
                                (some (.ret (.bool false) []))
                      else
                        bif (o == 11) then
                          (some (.ret (.bool ((f.N == f.V) == ((bits .and .i64 o 1) == 0))) []))
                        else
                          bif (o == 12) then
                            bif (o == 12) then
                              bif (!f.Z) then
                                (some (.ret (.bool ((f.N == f.V) == ((bits .and .i64 o 1) == 0))) []))
                              else
                                (some (.ret (.bool (false == ((bits .and .i64 o 1) == 0))) []))
                            else
                              bif (o == 14) then
                                (some (.ret (.bool true) []))
                              else
                                (some (.ret (.bool false) []))
                          else
                            bif (o == 13) then
                              bif (!f.Z) then
                                (some (.ret (.bool ((f.N == f.V) == ((bits .and .i64 o 1) == 0))) []))
                              else
                                (some (.ret (.bool (false == ((bits .and .i64 o 1) == 0))) []))
                            else
                              bif (o == 14) then
                                (some (.ret (.bool true) []))
                              else
                                (some (.ret (.bool false) []))
              else
                bif (o == 7) then
                  (some (.ret (.bool (f.V == ((bits .and .i64 o 1) == 0))) []))
                else
                  bif (o == 8) then
                    bif (o == 8) then
                      bif f.C then
                        (some (.ret (.bool ((!f.Z) == ((bits .and .i64 o 1) == 0))) []))
                      else
                        (some (.ret (.bool (false == ((bits .and .i64 o 1) == 0))) []))
                    else
                      bif (o == 10) then
                        bif (o == 10) then
                          (some (.ret (.bool ((f.N == f.V) == ((bits .and .i64 o 1) == 0))) []))
                        else
                          bif (o == 12) then
                            bif (o == 12) then
                              bif (!f.Z) then
                                (some (.ret (.bool ((f.N == f.V) == ((bits .and .i64 o 1) == 0))) []))
                              else
                                (some (.ret (.bool (false == ((bits .and .i64 o 1) == 0))) []))
                            else
                              bif (o == 14) then
                                (some (.ret (.bool true) []))
                              else
                                (some (.ret (.bool false) []))
                          else
                            bif (o == 13) then
                              bif (!f.Z) then
                                (some (.ret (.bool ((f.N == f.V) == ((bits .and .i64 o 1) == 0))) []))
                              else
                                (some (.ret (.bool (false == ((bits .and .i64 o 1) == 0))) []))
                            else
                              bif (o == 14) then
                                (some (.ret (.bool true) []))
                              else
                                (some (.ret (.bool false) []))
                      else
                        bif (o == 11) then
                          (some (.ret (.bool ((f.N == f.V) == ((bits .and .i64 o 1) == 0))) []))
                        else
                          bif (o == 12) then
                            bif (o == 12) then
                              bif (!f.Z) then
                                (some (.ret (.bool ((f.N == f.V) == ((bits .and .i64 o 1) == 0))) []))
                              else
                                (some (.ret (.bool (false == ((bits .and .i64 o 1) == 0))) []))
                            else
                              bif (o == 14) then
                                (some (.ret (.bool true) []))
                              else
                                (some (.ret (.bool false) []))
                          else
                            bif (o == 13) then
                              bif (!f.Z) then
                                (some (.ret (.bool ((f.N == f.V) == ((bits .and .i64 o 1) == 0))) []))
                              else
                                (some (.ret (.bool (false == ((bits .and .i64 o 1) == 0))) []))
                            else
                              bif (o == 14) then
                                (some (.ret (.bool true) []))
                              else
                                (some (.ret (.bool false) []))
                  else
                    bif (o == 9) then
                      bif f.C then
                        (some (.ret (.bool ((!f.Z) == ((bits .and .i64 o 1) == 0))) []))
                      else
                        (some (.ret (.bool (false == ((bits .and .i64 o 1) == 0))) []))
                    else
                      bif (o == 10) then
                        bif (o == 10) then
                          (some (.ret (.bool ((f.N == f.V) == ((bits .and .i64 o 1) == 0))) []))
                        else
                          bif (o == 12) then
                            bif (o == 12) then
                              bif (!f.Z) then
                                (some (.ret (.bool ((f.N == f.V) == ((bits .and .i64 o 1) == 0))) []))
                              else
                                (some (.ret (.bool (false == ((bits .and .i64 o 1) == 0))) []))
                            else
                              bif (o == 14) then
                                (some (.ret (.bool true) []))
                              else
                                (some (.ret (.bool false) []))
                          else
                            bif (o == 13) then
                              bif (!f.Z) then
                                (some (.ret (.bool ((f.N == f.V) == ((bits .and .i64 o 1) == 0))) []))
                              else
                                (some (.ret (.bool (false == ((bits .and .i64 o 1) == 0))) []))
                            else
                              bif (o == 14) then
                                (some (.ret (.bool true) []))
                              else
                                (some (.ret (.bool false) []))
                      else
                        bif (o == 11) then
                          (some (.ret (.bool ((f.N == f.V) == ((bits .and .i64 o 1) == 0))) []))
                        else
                          bif (o == 12) then
                            bif (o == 12) then
                              bif (!f.Z) then
                                (some (.ret (.bool ((f.N == f.V) == ((bits .and .i64 o 1) == 0))) []))
                              else
                                (some (.ret (.bool (false == ((bits .and .i64 o 1) == 0))) []))
                            else
                              bif (o == 14) then
                                (some (.ret (.bool true) []))
                              else
                                (some (.ret (.bool false) []))
                          else
                            bif (o == 13) then
                              bif (!f.Z) then
                                (some (.ret (.bool ((f.N == f.V) == ((bits .and .i64 o 1) == 0))) []))
                              else
                                (some (.ret (.bool (false == ((bits .and .i64 o 1) == 0))) []))
                            else
                              bif (o == 14) then
                                (some (.ret (.bool true) []))
                              else
                                (some (.ret (.bool false) []))
          else
            bif (o == 5) then
              (some (.ret (.bool (f.N == ((bits .and .i64 o 1) == 0))) []))
            else
              bif (o == 6) then
                bif (o == 6) then
                  (some (.ret (.bool (f.V == ((bits .and .i64 o 1) == 0))) []))
                else
                  bif (o == 8) then
                    bif (o == 8) then
                      bif f.C then
                        (some (.ret (.bool ((!f.Z) == ((bits .and .i64 o 1) == 0))) []))
                      else
                        (some (.ret (.bool (false == ((bits .and .i64 o 1) == 0))) []))
                    else
                      bif (o == 10) then
                        bif (o == 10) then
                          (some (.ret (.bool ((f.N == f.V) == ((bits .and .i64 o 1) == 0))) []))
                        else
                          bif (o == 12) then
                            bif (o == 12) then
                              bif (!f.Z) then
                                (some (.ret (.bool ((f.N == f.V) == ((bits .and .i64 o 1) == 0))) []))
                              else
                                (some (.ret (.bool (false == ((bits .and .i64 o 1) == 0))) []))
                            else
                              bif (o == 14) then
                                (some (.ret (.bool true) []))
                              else
                                (some (.ret (.bool false) []))
                          else
                            bif (o == 13) then
                              bif (!f.Z) then
                                (some (.ret (.bool ((f.N == f.V) == ((bits .and .i64 o 1) == 0))) []))
                              else
                                (some (.ret (.bool (false == ((bits .and .i64 o 1) == 0))) []))
                            else
                              bif (o == 14) then
                                (some (.ret (.bool true) []))
                              else
                                (some (.ret (.bool false) []))
                      else
                        bif (o == 11) then
                          (some (.ret (.bool ((f.N == f.V) == ((bits .and .i64 o 1) == 0))) []))
                        else
                          bif (o == 12) then
                            bif (o == 12) then
                              bif (!f.Z) then
                                (some (.ret (.bool ((f.N == f.V) == ((bits .and .i64 o 1) == 0))) []))
                              else
                                (some (.ret (.bool (false == ((bits .and .i64 o 1) == 0))) []))
                            else
                              bif (o == 14) then
                                (some (.ret (.bool true) []))
                              else
                                (some (.ret (.bool false) []))
                          else
                            bif (o == 13) then
                              bif (!f.Z) then
                                (some (.ret (.bool ((f.N == f.V) == ((bits .and .i64 o 1) == 0))) []))
                              else
                                (some (.ret (.bool (false == ((bits .and .i64 o 1) == 0))) []))
                            else
                              bif (o == 14) then
                                (some (.ret (.bool true) []))
                              else
                                (some (.ret (.bool false) []))
                  else
                    bif (o == 9) then
                      bif f.C then
                        (some (.ret (.bool ((!f.Z) == ((bits .and .i64 o 1) == 0))) []))
                      else
                        (some (.ret (.bool (false == ((bits .and .i64 o 1) == 0))) []))
                    else
                      bif (o == 10) then
                        bif (o == 10) then
                          (some (.ret (.bool ((f.N == f.V) == ((bits .and .i64 o 1) == 0))) []))
                        else
                          bif (o == 12) then
                            bif (o == 12) then
                              bif (!f.Z) then
                                (some (.ret (.bool ((f.N == f.V) == ((bits .and .i64 o 1) == 0))) []))
                              else
                                (some (.ret (.bool (false == ((bits .and .i64 o 1) == 0))) []))
                            else
                              bif (o == 14) then
                                (some (.ret (.bool true) []))
                              else
                                (some (.ret (.bool false) []))
                          else
                            bif (o == 13) then
                              bif (!f.Z) then
                                (some (.ret (.bool ((f.N == f.V) == ((bits .and .i64 o 1) == 0))) []))
                              else
                                (some (.ret (.bool (false == ((bits .and .i64 o 1) == 0))) []))
                            else
                              bif (o == 14) then
                                (some (.ret (.bool true) []))
                              else
                                (some (.ret (.bool false) []))
                      else
                        bif (o == 11) then
                          (some (.ret (.bool ((f.N == f.V) == ((bits .and .i64 o 1) == 0))) []))
                        else
                          bif (o == 12) then
                            bif (o == 12) then
                              bif (!f.Z) then
                                (some (.ret (.bool ((f.N == f.V) == ((bits .and .i64 o 1) == 0))) []))
                              else
                                (some (.ret (.bool (false == ((bits .and .i64 o 1) == 0))) []))
                            else
                              bif (o == 14) then
                                (some (.ret (.bool true) []))
                              else
                                (some (.ret (.bool false) []))
                          else
                            bif (o == 13) then
                              bif (!f.Z) then
                                (some (.ret (.bool ((f.N == f.V) == ((bits .and .i64 o 1) == 0))) []))
                              else
                                (some (.ret (.bool (false == ((bits .and .i64 o 1) == 0))) []))
                            else
                              bif (o == 14) then
                                (some (.ret (.bool true) []))
                              else
                                (some (.ret (.bool false) []))
              else
                bif (o == 7) then
                  (some (.ret (.bool (f.V == ((bits .and .i64 o 1) == 0))) []))
                else
                  bif (o == 8) then
                    bif (o == 8) then
                      bif f.C then
                        (some (.ret (.bool ((!f.Z) == ((bits .and .i64 o 1) == 0))) []))
                      else
                        (some (.ret (.bool (false == ((bits .and .i64 o 1) == 0))) []))
                    else
                      bif (o == 10) then
                        bif (o == 10) then
                          (some (.ret (.bool ((f.N == f.V) == ((bits .and .i64 o 1) == 0))) []))
                        else
                          bif (o == 12) then
                            bif (o == 12) then
                              bif (!f.Z) then
                                (some (.ret (.bool ((f.N == f.V) == ((bits .and .i64 o 1) == 0))) []))
                              else
                                (some (.ret (.bool (false == ((bits .and .i64 o 1) == 0))) []))
                            else
                              bif (o == 14) then
                                (some (.ret (.bool true) []))
                              else
                                (some (.ret (.bool false) []))
                          else
                            bif (o == 13) then
                              bif (!f.Z) then
                                (some (.ret (.bool ((f.N == f.V) == ((bits .and .i64 o 1) == 0))) []))
                              else
                                (some (.ret (.bool (false == ((bits .and .i64 o 1) == 0))) []))
                            else
                              bif (o == 14) then
                                (some (.ret (.bool true) []))
                              else
                                (some (.ret (.bool false) []))
                      else
                        bif (o == 11) then
                          (some (.ret (.bool ((f.N == f.V) == ((bits .and .i64 o 1) == 0))) []))
                        else
                          bif (o == 12) then
                            bif (o == 12) then
                              bif (!f.Z) then
                                (some (.ret (.bool ((f.N == f.V) == ((bits .and .i64 o 1) == 0))) []))
                              else
                                (some (.ret (.bool (false == ((bits .and .i64 o 1) == 0))) []))
                            else
                              bif (o == 14) then
                                (some (.ret (.bool true) []))
                              else
                                (some (.ret (.bool false) []))
                          else
                            bif (o == 13) then
                              bif (!f.Z) then
                                (some (.ret (.bool ((f.N == f.V) == ((bits .and .i64 o 1) == 0))) []))
                              else
                                (some (.ret (.bool (false == ((bits .and .i64 o 1) == 0))) []))
                            else
                              bif (o == 14) then
                                (some (.ret (.bool true) []))
                              else
                                (some (.ret (.bool false) []))
                  else
                    bif (o == 9) then
                      bif f.C then
                        (some (.ret (.bool ((!f.Z) == ((bits .and .i64 o 1) == 0))) []))
                      else
                        (some (.ret (.bool (false == ((bits .and .i64 o 1) == 0))) []))
                    else
                      bif (o == 10) then
                        bif (o == 10) then
                          (some (.ret (.bool ((f.N == f.V) == ((bits .and .i64 o 1) == 0))) []))
                        else
                          bif (o == 12) then
                            bif (o == 12) then
                              bif (!f.Z) then
                                (some (.ret (.bool ((f.N == f.V) == ((bits .and .i64 o 1) == 0))) []))
                              else
                                (some (.ret (.bool (false == ((bits .and .i64 o 1) == 0))) []))
                            else
                              bif (o == 14) then
                                (some (.ret (.bool true) []))
                              else
                                (some (.ret (.bool false) []))
                          else
                            bif (o == 13) then
                              bif (!f.Z) then
                                (some (.ret (.bool ((f.N == f.V) == ((bits .and .i64 o 1) == 0))) []))
                              else
                                (some (.ret (.bool (false == ((bits .and .i64 o 1) == 0))) []))
                            else
                              bif (o == 14) then
                                (some (.ret (.bool true) []))
                              else
                                (some (.ret (.bool false) []))
                      else
                        bif (o == 11) then
                          (some (.ret (.bool ((f.N == f.V) == ((bits .and .i64 o 1) == 0))) []))
                        else
                          bif (o == 12) then
                            bif (o == 12) then
                              bif (!f.Z) then
                                (some (.ret (.bool ((f.N == f.V) == ((bits .and .i64 o 1) == 0))) []))
                              else
                                (some (.ret (.bool (false == ((bits .and .i64 o 1) == 0))) []))
                            else
                              bif (o == 14) then
                                (some (.ret (.bool true) []))
                              else
                                (some (.ret (.bool false) []))
                          else
                            bif (o == 13) then
                              bif (!f.Z) then
                                (some (.ret (.bool ((f.N == f.V) == ((bits .and .i64 o 1) == 0))) []))
                              else
                                (some (.ret (.bool (false == ((bits .and .i64 o 1) == 0))) []))
                            else
                              bif (o == 14) then
                                (some (.ret (.bool true) []))
                              else
                                (some (.ret (.bool false) []))
      else
        bif (o == 3) then
          (some (.ret (.bool (f.C == ((bits .and .i64 o 1) == 0))) []))
        else
          bif (o == 4) then
            bif (o == 4) then
              (some (.ret (.bool (f.N == ((bits .and .i64 o 1) == 0))) []))
            else
              bif (o == 6) then
                bif (o == 6) then
                  (some (.ret (.bool (f.V == ((bits .and .i64 o 1) == 0))) []))
                else
                  bif (o == 8) then
                    bif (o == 8) then
                      bif f.C then
                        (some (.ret (.bool ((!f.Z) == ((bits .and .i64 o 1) == 0))) []))
                      else
                        (some (.ret (.bool (false == ((bits .and .i64 o 1) == 0))) []))
                    else
                      bif (o == 10) then
                        bif (o == 10) then
                          (some (.ret (.bool ((f.N == f.V) == ((bits .and .i64 o 1) == 0))) []))
                        else
                          bif (o == 12) then
                            bif (o == 12) then
                              bif (!f.Z) then
                                (some (.ret (.bool ((f.N == f.V) == ((bits .and .i64 o 1) == 0))) []))
                              else
                                (some (.ret (.bool (false == ((bits .and .i64 o 1) == 0))) []))
                            else
                              bif (o == 14) then
                                (some (.ret (.bool true) []))
                              else
                                (some (.ret (.bool false) []))
                          else
                            bif (o == 13) then
                              bif (!f.Z) then
                                (some (.ret (.bool ((f.N == f.V) == ((bits .and .i64 o 1) == 0))) []))
                              else
                                (some (.ret (.bool (false == ((bits .and .i64 o 1) == 0))) []))
                            else
                              bif (o == 14) then
                                (some (.ret (.bool true) []))
                              else
                                (some (.ret (.bool false) []))
                      else
                        bif (o == 11) then
                          (some (.ret (.bool ((f.N == f.V) == ((bits .and .i64 o 1) == 0))) []))
                        else
                          bif (o == 12) then
                            bif (o == 12) then
                              bif (!f.Z) then
                                (some (.ret (.bool ((f.N == f.V) == ((bits .and .i64 o 1) == 0))) []))
                              else
                                (some (.ret (.bool (false == ((bits .and .i64 o 1) == 0))) []))
                            else
                              bif (o == 14) then
                                (some (.ret (.bool true) []))
                              else
                                (some (.ret (.bool false) []))
                          else
                            bif (o == 13) then
                              bif (!f.Z) then
                                (some (.ret (.bool ((f.N == f.V) == ((bits .and .i64 o 1) == 0))) []))
                              else
                                (some (.ret (.bool (false == ((bits .and .i64 o 1) == 0))) []))
                            else
                              bif (o == 14) then
                                (some (.ret (.bool true) []))
                              else
                                (some (.ret (.bool false) []))
                  else
                    bif (o == 9) then
                      bif f.C then
                        (some (.ret (.bool ((!f.Z) == ((bits .and .i64 o 1) == 0))) []))
                      else
                        (some (.ret (.bool (false == ((bits .and .i64 o 1) == 0))) []))
                    else
                      bif (o == 10) then
                        bif (o == 10) then
                          (some (.ret (.bool ((f.N == f.V) == ((bits .and .i64 o 1) == 0))) []))
                        else
                          bif (o == 12) then
                            bif (o == 12) then
                              bif (!f.Z) then
                                (some (.ret (.bool ((f.N == f.V) == ((bits .and .i64 o 1) == 0))) []))
                              else
                                (some (.ret (.bool (false == ((bits .and .i64 o 1) == 0))) []))
                            else
                              bif (o == 14) then
                                (some (.ret (.bool true) []))
                              else
                                (some (.ret (.bool false) []))
                          else
                            bif (o == 13) then
                              bif (!f.Z) then
                                (some (.ret (.bool ((f.N == f.V) == ((bits .and .i64 o 1) == 0))) []))
                              else
                                (some (.ret (.bool (false == ((bits .and .i64 o 1) == 0))) []))
                            else
                              bif (o == 14) then
                                (some (.ret (.bool true) []))
                              else
                                (some (.ret (.bool false) []))
                      else
                        bif (o == 11) then
                          (some (.ret (.bool ((f.N == f.V) == ((bits .and .i64 o 1) == 0))) []))
                        else
                          bif (o == 12) then
                            bif (o == 12) then
                              bif (!f.Z) then
                                (some (.ret (.bool ((f.N == f.V) == ((bits .and .i64 o 1) == 0))) []))
                              else
                                (some (.ret (.bool (false == ((bits .and .i64 o 1) == 0))) []))
                            else
                              bif (o == 14) then
                                (some (.ret (.bool true) []))
                              else
                                (some (.ret (.bool false) []))
                          else
                            bif (o == 13) then
                              bif (!f.Z) then
                                (some (.ret (.bool ((f.N == f.V) == ((bits .and .i64 o 1) == 0))) []))
                              else
                                (some (.ret (.bool (false == ((bits .and .i64 o 1) == 0))) []))
                            else
                              bif (o == 14) then
                                (some (.ret (.bool true) []))
                              else
                                (some (.ret (.bool false) []))
              else
                bif (o == 7) then
                  (some (.ret (.bool (f.V == ((bits .and .i64 o 1) == 0))) []))
                else
                  bif (o == 8) then
                    bif (o == 8) then
                      bif f.C then
                        (some (.ret (.bool ((!f.Z) == ((bits .and .i64 o 1) == 0))) []))
                      else
                        (some (.ret (.bool (false == ((bits .and .i64 o 1) == 0))) []))
                    else
                      bif (o == 10) then
                        bif (o == 10) then
                          (some (.ret (.bool ((f.N == f.V) == ((bits .and .i64 o 1) == 0))) []))
                        else
                          bif (o == 12) then
                            bif (o == 12) then
                              bif (!f.Z) then
                                (some (.ret (.bool ((f.N == f.V) == ((bits .and .i64 o 1) == 0))) []))
                              else
                                (some (.ret (.bool (false == ((bits .and .i64 o 1) == 0))) []))
                            else
                              bif (o == 14) then
                                (some (.ret (.bool true) []))
                              else
                                (some (.ret (.bool false) []))
                          else
                            bif (o == 13) then
                              bif (!f.Z) then
                                (some (.ret (.bool ((f.N == f.V) == ((bits .and .i64 o 1) == 0))) []))
                              else
                                (some (.ret (.bool (false == ((bits .and .i64 o 1) == 0))) []))
                            else
                              bif (o == 14) then
                                (some (.ret (.bool true) []))
                              else
                                (some (.ret (.bool false) []))
                      else
                        bif (o == 11) then
                          (some (.ret (.bool ((f.N == f.V) == ((bits .and .i64 o 1) == 0))) []))
                        else
                          bif (o == 12) then
                            bif (o == 12) then
                              bif (!f.Z) then
                                (some (.ret (.bool ((f.N == f.V) == ((bits .and .i64 o 1) == 0))) []))
                              else
                                (some (.ret (.bool (false == ((bits .and .i64 o 1) == 0))) []))
                            else
                              bif (o == 14) then
                                (some (.ret (.bool true) []))
                              else
                                (some (.ret (.bool false) []))
                          else
                            bif (o == 13) then
                              bif (!f.Z) then
                                (some (.ret (.bool ((f.N == f.V) == ((bits .and .i64 o 1) == 0))) []))
                              else
                                (some (.ret (.bool (false == ((bits .and .i64 o 1) == 0))) []))
                            else
                              bif (o == 14) then
                                (some (.ret (.bool true) []))
                              else
                                (some (.ret (.bool false) []))
                  else
                    bif (o == 9) then
                      bif f.C then
                        (some (.ret (.bool ((!f.Z) == ((bits .and .i64 o 1) == 0))) []))
                      else
                        (some (.ret (.bool (false == ((bits .and .i64 o 1) == 0))) []))
                    else
                      bif (o == 10) then
                        bif (o == 10) then
                          (some (.ret (.bool ((f.N == f.V) == ((bits .and .i64 o 1) == 0))) []))
                        else
                          bif (o == 12) then
                            bif (o == 12) then
                              bif (!f.Z) then
                                (some (.ret (.bool ((f.N == f.V) == ((bits .and .i64 o 1) == 0))) []))
                              else
                                (some (.ret (.bool (false == ((bits .and .i64 o 1) == 0))) []))
                            else
                              bif (o == 14) then
                                (some (.ret (.bool true) []))
                              else
                                (some (.ret (.bool false) []))
                          else
                            bif (o == 13) then
                              bif (!f.Z) then
                                (some (.ret (.bool ((f.N == f.V) == ((bits .and .i64 o 1) == 0))) []))
                              else
                                (some (.ret (.bool (false == ((bits .and .i64 o 1) == 0))) []))
                            else
                              bif (o == 14) then
                                (some (.ret (.bool true) []))
                              else
                                (some (.ret (.bool false) []))
                      else
                        bif (o == 11) then
                          (some (.ret (.bool ((f.N == f.V) == ((bits .and .i64 o 1) == 0))) []))
                        else
                          bif (o == 12) then
                            bif (o == 12) then
                              bif (!f.Z) then
                                (some (.ret (.bool ((f.N == f.V) == ((bits .and .i64 o 1) == 0))) []))
                              else
                                (some (.ret (.bool (false == ((bits .and .i64 o 1) == 0))) []))
                            else
                              bif (o == 14) then
                                (some (.ret (.bool true) []))
                              else
                                (some (.ret (.bool false) []))
                          else
                            bif (o == 13) then
                              bif (!f.Z) then
                                (some (.ret (.bool ((f.N == f.V) == ((bits .and .i64 o 1) == 0))) []))
                              else
                                (some (.ret (.bool (false == ((bits .and .i64 o 1) == 0))) []))
                            else
                              bif (o == 14) then
                                (some (.ret (.bool true) []))
                              else
                                (some (.ret (.bool false) []))
          else
            bif (o == 5) then
              (some (.ret (.bool (f.N == ((bits .and .i64 o 1) == 0))) []))
            else
              bif (o == 6) then
                bif (o == 6) then
                  (some (.ret (.bool (f.V == ((bits .and .i64 o 1) == 0))) []))
                else
                  bif (o == 8) then
                    bif (o == 8) then
                      bif f.C then
                        (some (.ret (.bool ((!f.Z) == ((bits .and .i64 o 1) == 0))) []))
                      else
                        (some (.ret (.bool (false == ((bits .and .i64 o 1) == 0))) []))
                    else
                      bif (o == 10) then
                        bif (o == 10) then
                          (some (.ret (.bool ((f.N == f.V) == ((bits .and .i64 o 1) == 0))) []))
                        else
                          bif (o == 12) then
                            bif (o == 12) then
                              bif (!f.Z) then
                                (some (.ret (.bool ((f.N == f.V) == ((bits .and .i64 o 1) == 0))) []))
                              else
                                (some (.ret (.bool (false == ((bits .and .i64 o 1) == 0))) []))
                            else
                              bif (o == 14) then
                                (some (.ret (.bool true) []))
                              else
                                (some (.ret (.bool false) []))
                          else
                            bif (o == 13) then
                              bif (!f.Z) then
                                (some (.ret (.bool ((f.N == f.V) == ((bits .and .i64 o 1) == 0))) []))
                              else
                                (some (.ret (.bool (false == ((bits .and .i64 o 1) == 0))) []))
                            else
                              bif (o == 14) then
                                (some (.ret (.bool true) []))
                              else
                                (some (.ret (.bool false) []))
                      else
                        bif (o == 11) then
                          (some (.ret (.bool ((f.N == f.V) == ((bits .and .i64 o 1) == 0))) []))
                        else
                          bif (o == 12) then
                            bif (o == 12) then
                              bif (!f.Z) then
                                (some (.ret (.bool ((f.N == f.V) == ((bits .and .i64 o 1) == 0))) []))
                              else
                                (some (.ret (.bool (false == ((bits .and .i64 o 1) == 0))) []))
                            else
                              bif (o == 14) then
                                (some (.ret (.bool true) []))
                              else
                                (some (.ret (.bool false) []))
                          else
                            bif (o == 13) then
                              bif (!f.Z) then
                                (some (.ret (.bool ((f.N == f.V) == ((bits .and .i64 o 1) == 0))) []))
                              else
                                (some (.ret (.bool (false == ((bits .and .i64 o 1) == 0))) []))
                            else
                              bif (o == 14) then
                                (some (.ret (.bool true) []))
                              else
                                (some (.ret (.bool false) []))
                  else
                    bif (o == 9) then
                      bif f.C then
                        (some (.ret (.bool ((!f.Z) == ((bits .and .i64 o 1) == 0))) []))
                      else
                        (some (.ret (.bool (false == ((bits .and .i64 o 1) == 0))) []))
                    else
                      bif (o == 10) then
                        bif (o == 10) then
                          (some (.ret (.bool ((f.N == f.V) == ((bits .and .i64 o 1) == 0))) []))
                        else
                          bif (o == 12) then
                            bif (o == 12) then
                              bif (!f.Z) then
                                (some (.ret (.bool ((f.N == f.V) == ((bits .and .i64 o 1) == 0))) []))
                              else
                                (some (.ret (.bool (false == ((bits .and .i64 o 1) == 0))) []))
                            else
                              bif (o == 14) then
                                (some (.ret (.bool true) []))
                              else
                                (some (.ret (.bool false) []))
                          else
                            bif (o == 13) then
                              bif (!f.Z) then
                                (some (.ret (.bool ((f.N == f.V) == ((bits .and .i64 o 1) == 0))) []))
                              else
                                (some (.ret (.bool (false == ((bits .and .i64 o 1) == 0))) []))
                            else
                              bif (o == 14) then
                                (some (.ret (.bool true) []))
                              else
                                (some (.ret (.bool false) []))
                      else
                        bif (o == 11) then
                          (some (.ret (.bool ((f.N == f.V) == ((bits .and .i64 o 1) == 0))) []))
                        else
                          bif (o == 12) then
                            bif (o == 12) then
                              bif (!f.Z) then
                                (some (.ret (.bool ((f.N == f.V) == ((bits .and .i64 o 1) == 0))) []))
                              else
                                (some (.ret (.bool (false == ((bits .and .i64 o 1) == 0))) []))
                            else
                              bif (o == 14) then
                                (some (.ret (.bool true) []))
                              else
                                (some (.ret (.bool false) []))
                          else
                            bif (o == 13) then
                              bif (!f.Z) then
                                (some (.ret (.bool ((f.N == f.V) == ((bits .and .i64 o 1) == 0))) []))
                              else
                                (some (.ret (.bool (false == ((bits .and .i64 o 1) == 0))) []))
                            else
                              bif (o == 14) then
                                (some (.ret (.bool true) []))
                              else
                                (some (.ret (.bool false) []))
              else
                bif (o == 7) then
                  (some (.ret (.bool (f.V == ((bits .and .i64 o 1) == 0))) []))
                else
                  bif (o == 8) then
                    bif (o == 8) then
                      bif f.C then
                        (some (.ret (.bool ((!f.Z) == ((bits .and .i64 o 1) == 0))) []))
                      else
                        (some (.ret (.bool (false == ((bits .and .i64 o 1) == 0))) []))
                    else
                      bif (o == 10) then
                        bif (o == 10) then
                          (some (.ret (.bool ((f.N == f.V) == ((bits .and .i64 o 1) == 0))) []))
                        else
                          bif (o == 12) then
                            bif (o == 12) then
                              bif (!f.Z) then
                                (some (.ret (.bool ((f.N == f.V) == ((bits .and .i64 o 1) == 0))) []))
                              else
                                (some (.ret (.bool (false == ((bits .and .i64 o 1) == 0))) []))
                            else
                              bif (o == 14) then
                                (some (.ret (.bool true) []))
                              else
                                (some (.ret (.bool false) []))
                          else
                            bif (o == 13) then
                              bif (!f.Z) then
                                (some (.ret (.bool ((f.N == f.V) == ((bits .and .i64 o 1) == 0))) []))
                              else
                                (some (.ret (.bool (false == ((bits .and .i64 o 1) == 0))) []))
                            else
                              bif (o == 14) then
                                (some (.ret (.bool true) []))
                              else
                                (some (.ret (.bool false) []))
                      else
                        bif (o == 11) then
                          (some (.ret (.bool ((f.N == f.V) == ((bits .and .i64 o 1) == 0))) []))
                        else
                          bif (o == 12) then
                            bif (o == 12) then
                              bif (!f.Z) then
                                (some (.ret (.bool ((f.N == f.V) == ((bits .and .i64 o 1) == 0))) []))
                              else
                                (some (.ret (.bool (false == ((bits .and .i64 o 1) == 0))) []))
                            else
                              bif (o == 14) then
                                (some (.ret (.bool true) []))
                              else
                                (some (.ret (.bool false) []))
                          else
                            bif (o == 13) then
                              bif (!f.Z) then
                                (some (.ret (.bool ((f.N == f.V) == ((bits .and .i64 o 1) == 0))) []))
                              else
                                (some (.ret (.bool (false == ((bits .and .i64 o 1) == 0))) []))
                            else
                              bif (o == 14) then
                                (some (.ret (.bool true) []))
                              else
                                (some (.ret (.bool false) []))
                  else
                    bif (o == 9) then
                      bif f.C then
                        (some (.ret (.bool ((!f.Z) == ((bits .and .i64 o 1) == 0))) []))
                      else
                        (some (.ret (.bool (false == ((bits .and .i64 o 1) == 0))) []))
                    else
                      bif (o == 10) then
                        bif (o == 10) then
                          (some (.ret (.bool ((f.N == f.V) == ((bits .and .i64 o 1) == 0))) []))
                        else
                          bif (o == 12) then
                            bif (o == 12) then
                              bif (!f.Z) then
                                (some (.ret (.bool ((f.N == f.V) == ((bits .and .i64 o 1) == 0))) []))
                              else
                                (some (.ret (.bool (false == ((bits .and .i64 o 1) == 0))) []))
                            else
                              bif (o == 14) then
                                (some (.ret (.bool true) []))
                              else
                                (some (.ret (.bool false) []))
                          else
                            bif (o == 13) then
                              bif (!f.Z) then
                                (some (.ret (.bool ((f.N == f.V) == ((bits .and .i64 o 1) == 0))) []))
                              else
                                (some (.ret (.bool (false == ((bits .and .i64 o 1) == 0))) []))
                            else
                              bif (o == 14) then
                                (some (.ret (.bool true) []))
                              else
                                (some (.ret (.bool false) []))
                      else
                        bif (o == 11) then
                          (some (.ret (.bool ((f.N == f.V) == ((bits .and .i64 o 1) == 0))) []))
                        else
                          bif (o == 12) then
                            bif (o == 12) then
                              bif (!f.Z) then
                                (some (.ret (.bool ((f.N == f.V) == ((bits .and .i64 o 1) == 0))) []))
                              else
                                (some (.ret (.bool (false == ((bits .and .i64 o 1) == 0))) []))
                            else
                              bif (o == 14) then
                                (some (.ret (.bool true) []))
                              else
                                (some (.ret (.bool false) []))
                          else
                            bif (o == 13) then
                              bif (!f.Z) then
                                (some (.ret (.bool ((f.N == f.V) == ((bits .and .i64 o 1) == 0))) []))
                              else
                                (some (.ret (.bool (false == ((bits .and .i64 o 1) == 0))) []))
                            else
                              bif (o == 14) then
                                (some (.ret (.bool true) []))
                              else
                                (some (.ret (.bool false) []))
theorem r21  (o : Int) (f : Flg) : runBody std Try.prog (liftT (tab [])) 40 Try.f21 [.int .i64 o, flgV f] [] (ksAuto ([] : Heap).length) = T21  o f := by kernel_rfl
theorem g21  (o : Int) (f : Flg) : Fits kBool (T21  o f) := by
  unfold T21; repeat' (first | apply fits_br | exact fits_leaf rfl)
noncomputable def M21  : Int → Flg → (Bool) := fun o f => kBool.of (T21  o f)
theorem ok21   : EntryOK Try.prog (e21 (M21 )) := by
  intro args H c hc hH ha
  unfold e21 at hc
  dsimp only at hc
  split at hc
  rotate_left
  · cases hc
  rename_i o vf
  split at hc
  rotate_left
  · cases hc
  rename_i f hif
  obtain rfl := flgOf_eq hif
  simp only [CT.run, Option.some.injEq] at hc
  subst hc
  exact keep_ok (run_ok tab_nil mixed Try.func21 ((r21 o f).trans (g21 o f).eq) hH ha)

end Go.Vx
